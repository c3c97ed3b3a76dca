/- Walks: the program's tags reader: an opening (chapter 11). -/
import Derived.Test.YtlogjghbdnaedaaTgU
import Derived.Test.YtlogjghbdnaedaaTgF
import Derived.Deep.AppendLies
namespace Go.Proofs.Ytlogjghbdnaedaa
open Go.RowKit
set_option linter.unusedVariables false
set_option linter.unusedSimpArgs false
theorem cells_newT (w : World) (cs : Array Value) (t : TypeId) : ∀ j u, cs.toList[j]? = some u → (w.alloc (.cells cs t)).cell? ((⟨w.heap.size, 0, none⟩ : Addr).add j) = some u := by
  intro j u h
  have := (Blk.new w t cs).cell (0 + j)
  rw [Nat.zero_add] at this
  have h2 : (w.alloc (.cells cs t)).cell? ⟨w.heap.size, j, none⟩ = some u := by rw [this, ← Array.getElem?_toList]; exact h
  have h3 : (⟨w.heap.size, 0, none⟩ : Addr).add j = ⟨w.heap.size, j, none⟩ := by rw [Addr.add_lit, Nat.zero_add]
  rw [h3]; exact h2
theorem own_shapeT {w : World} {base : Nat} {e : TypeId} {size n : Nat} {v : Value} {xs : List Value} (h : w.ownsRow base e size v n xs) : ∃ o m c, v = .slice o m c := by
  rcases h.2 with ⟨rfl, _⟩ | ⟨g, cap, cur, rfl, _⟩
  · exact ⟨_, _, _, rfl⟩
  · exact ⟨_, _, _, rfl⟩
theorem owns_only {n g : Nat} {e : TypeId} {size N : Nat} {v : Value} {xs : List Value} {w w' : World} (h : w.ownsRow n e size v N xs) (ho : Only g w w') (hg : g < n) : w'.ownsRow n e size v N xs := by
  refine ⟨h.1, ?_⟩
  rcases h.2 with h | ⟨q, cap, cur, hv, hq, hh, r⟩
  · exact .inl h
  · exact .inr ⟨q, cap, cur, hv, hq, (ho.block q (Array.getElem?_eq_some_iff.1 hh).1 (by omega)).trans hh, r⟩
def zeroA : Value := .agg #[.string ⟨#[]⟩, .string ⟨#[]⟩, .int .i64 0, .int .i64 0]
theorem infoA : (Try.prog.info? 47).map (fun i => (i.zero, i.size, i.bytes)) = some (some zeroA, 4, 48) := by kernel_rfl
/-- What the program says of an opening. -/
def OpnR (o : Option (List Att × Nat)) (x : ByteArray) (fr : Int) (B g : Nat) (s : ByteArray) (e : Ending) (w : World) : Prop := match o with
  | some (bs, t) => ∃ av cs, e = .returned (.tuple #[.agg #[.int .u8 111, .string x, .string ⟨#[]⟩, av, .int .i64 fr, .int .i64 t], .bool true]) ∧ RowG w (fun b => B ≤ b) av bs.length cs ∧ AttsC true bs cs ∧ Rdr w g s t
  | none => ∃ (q : Int) (n t : ByteArray) (o : Option Addr) (m c : Nat) (f u : Int), e = .returned (.tuple #[.agg #[.int .u8 q, .string n, .string t, .slice o m c, .int .i64 f, .int .i64 u], .bool false])
/-- While an opening is read. -/
structure OM (w : World) (g T : Nat) (s : ByteArray) (j : Nat) (x : ByteArray) (fr : Int) (v : Value) (az : List Att) (cs : List Value) (wr : World) : Prop where
  lg : g < w.heap.size
  lT : w.heap.size < T
  r : Rdr wr g s j
  t : Blk wr w.heap.size 45 #[.int .u8 0, .string ⟨#[]⟩, .string ⟨#[]⟩, .slice none 0 0, .int .i64 0, .int .i64 0]
  k : Blk wr T 45 #[.int .u8 111, .string x, .string ⟨#[]⟩, v, .int .i64 fr, .int .i64 0]
  ow : wr.ownsRow (T + 1) 47 4 v az.length cs
  at_ : AttsC true az cs
  o : Only g w wr
section
variable {w wr w' : World} {g T j j' : Nat} {s x : ByteArray} {fr : Int} {v : Value} {az : List Att} {cs : List Value}
theorem OM.only (h : OM w g T s j x fr v az cs wr) (ho : Only g wr w') (hr : Rdr w' g s j') : OM w g T s j' x fr v az cs w' :=
  ⟨h.lg, h.lT, hr, Blk.only h.t ho (by have := h.lg; omega), Blk.only h.k ho (by have := h.lg; have := h.lT; omega), owns_only h.ow ho (by have := h.lg; have := h.lT; omega), h.at_, h.o.trans ho⟩
theorem OM.bel (h : OM w g T s j x fr v az cs wr) (hb : Below wr.heap.size wr w') : OM w g T s j x fr v az cs w' := h.only (Only.of_below hb) (h.r.bel hb)
theorem OM.al (h : OM w g T s j x fr v az cs wr) (o : Obj) : OM w g T s j x fr v az cs (wr.alloc o) := h.bel ((Below.refl _ _).alloc (Nat.le_refl _) o)
/-- One attribute more. -/
theorem OM.att {a : Att} {p q : Value} {w3 : World} {g3 cap3 : Nat} {o1 : Obj} (h : OM w g T s j x fr v az cs wr) (hp : PlG true a.frm a.to p q)
    (ho : w3.ownsRow (T + 1) 47 4 (.slice (some ⟨g3, 0, none⟩) (az.length + 1) cap3) (az.length + 1) (cs ++ [.string (strOf a.name), .string (strOf a.val), p, q]))
    (hg : (wr.alloc o1).grownBy w3 v.ownBlock) :
    OM w g T s j x fr (.slice (some ⟨g3, 0, none⟩) (az.length + 1) cap3) (az ++ [a]) (cs ++ [.string (strOf a.name), .string (strOf a.val), p, q]) (w3.setCell ⟨T, 3, none⟩ (.slice (some ⟨g3, 0, none⟩) (az.length + 1) cap3)) := by
  have hnl := fun b hb => h.ow.lt b hb
  have hkl := h.k.lt
  have hbk : ∀ k, k < wr.heap.size → v.ownBlock ≠ some k → w3.heap[k]? = wr.heap[k]? := by
    intro k hk hkn
    rw [hg.block k (by simp; omega) (fun h => hkn h.symm)]
    exact Below.heap_alloc wr o1 k hk
  have hlow : ∀ k, k < T + 1 → v.ownBlock ≠ some k := fun k hk e => by have := (hnl k e).1; omega
  have hblk : ∀ k, k < wr.heap.size → k ≠ T → v.ownBlock ≠ some k → (w3.setCell ⟨T, 3, none⟩ (.slice (some ⟨g3, 0, none⟩) (az.length + 1) cap3)).heap[k]? = wr.heap[k]? := by
    intro k hk hne hkn
    rw [Below.heap_setCell w3 ⟨T, 3, none⟩ _ k hne, hbk k hk hkn]
  have hlT := h.lT
  have hlg := h.lg
  have hk3 : Blk w3 T 45 #[.int .u8 111, .string x, .string ⟨#[]⟩, v, .int .i64 fr, .int .i64 0] := (hbk T hkl (hlow T (by omega))).trans h.k
  refine ⟨hlg, hlT, ?_, ?_, hk3.set_ 3 _, ?_, AttsC.snoc hp az cs h.at_, ?_⟩
  · exact (hblk g h.r.lt (by omega) (hlow g (by omega))).trans h.r
  · exact (hblk w.heap.size h.t.lt (by omega) (hlow _ (by omega))).trans h.t
  · rw [List.length_append]; exact ownsRow_setCell_below ho (a := ⟨T, 3, none⟩) (by show T < T + 1; omega) _
  · have hs3 : wr.heap.size ≤ w3.heap.size := by have := hg.size; simp at this; omega
    have hsz : w.heap.size ≤ wr.heap.size := h.o.size
    exact ⟨hg.os.trans h.o.os, hg.tape.trans h.o.tape, hg.output.trans h.o.output, by simp [World.setCell]; omega, fun k hk hn => (hblk k (by omega) (by omega) (hlow k (by omega))).trans (h.o.block k hk hn)⟩
end
set_option maxRecDepth 100000 in
set_option maxHeartbeats 16000000 in
theorem topen (g k : Nat) (fr : Int) (s : ByteArray) (w : World) (hR : Rdr w g s k) (hk : k ≤ s.size) (hs : s.size ≤ 1000000) :
    Calls Try.prog 37 #[.pointer (some ⟨g, 0, none⟩), .int .i64 fr] w fun e w' => OpnR (if isElem (runT nameB s.data.toList k) = true then opnJ s.data.toList (runE nameB s.data.toList k) [] else none) (strOf (runT nameB s.data.toList k)) fr w.heap.size g s e w' ∧ Only g w w' := by
  have HL := Lib.hid (sz_len s)
  have hgl := hR.lt
  have hk1 : runE nameB s.data.toList k ≤ s.size := by rw [sz_len]; exact runE_le _ _ _ (by rw [← sz_len]; exact hk)
  have HW := Lib.hid (fun w hR => twhileL g k s w hR hk hs)
  have HEL := Lib.hid (fun w => telem (strOf (runT nameB s.data.toList k)) w)
  rw [strOf_list] at HEL
  obtain ⟨N, hN⟩ : ∃ N, runT nameB s.data.toList k = N := ⟨_, rfl⟩
  obtain ⟨k1, hk1e⟩ : ∃ k1, runE nameB s.data.toList k = k1 := ⟨_, rfl⟩
  rw [hN] at HEL
  rw [hk1e] at hk1
  simp only [hN, hk1e] at HW ⊢
  obtain ⟨x, hx⟩ : ∃ x, strOf N = x := ⟨_, rfl⟩
  rw [hx] at HEL
  simp only [hx] at HW ⊢
  obtain ⟨R, hRr⟩ : ∃ R, (if isElem N = true then opnJ s.data.toList k1 [] else none) = R := ⟨_, rfl⟩
  rw [hRr]
  have HRE := Lib.hid hRr
  clear hRr
  have HT0 := Lib.hid (Blk.new w 45 #[.int .u8 0, .string ⟨#[]⟩, .string ⟨#[]⟩, .slice none 0 0, .int .i64 0, .int .i64 0])
  have HR0 := Lib.hid (hR.alloc (.cells #[.int .u8 0, .string ⟨#[]⟩, .string ⟨#[]⟩, .slice none 0 0, .int .i64 0, .int .i64 0] 45))
  have HO0 := Lib.hid ((Only.refl g w).alloc (.cells #[.int .u8 0, .string ⟨#[]⟩, .string ⟨#[]⟩, .slice none 0 0, .int .i64 0, .int .i64 0] 45))
  have HS0 : Hid (w.heap.size < (w.alloc (.cells #[.int .u8 0, .string ⟨#[]⟩, .string ⟨#[]⟩, .slice none 0 0, .int .i64 0, .int .i64 0] 45)).heap.size) := by show _ < _; simp
  clear hR hN hk1e hx
  go_enter Try.func37, Try.ntmps37
  go_upto_region 1 with fail
  generalize w.alloc (.cells #[.int .u8 0, .string ⟨#[]⟩, .string ⟨#[]⟩, .slice none 0 0, .int .i64 0, .int .i64 0] 45) = W0 at *
  go_wp2_with fail
  refine (HW.out _ HR0.out).mono ?_
  rintro e w2 ⟨rfl, hR2, hO2⟩
  have HSZ : Hid (w.heap.size < w2.heap.size) := Nat.lt_of_lt_of_le HS0.out hO2.size
  have HM3 : Hid (OM w g w2.heap.size s k1 x fr (.slice none 0 0) [] [] (w2.alloc (.cells #[.int .u8 111, .string x, .string ⟨#[]⟩, .slice none 0 0, .int .i64 fr, .int .i64 0] 45))) :=
    ⟨hgl, HSZ.out, hR2.alloc _, (Blk.only HT0.out hO2 (Nat.ne_of_gt hgl)).alloc _, Blk.new w2 45 _, World.ownsRow_nil _ _ _ _, rfl, (HO0.out.trans hO2).alloc _⟩
  clear hR2 hO2 HT0 HR0 HO0 HS0 HSZ
  go_upto_region 2 with fail
  generalize hW : w2.alloc (.cells #[.int .u8 111, .string x, .string ⟨#[]⟩, .slice none 0 0, .int .i64 fr, .int .i64 0] 45) = W3 at *
  generalize hA : w2.heap.size = T at *
  clear hW hA
  have k1c := HM3.out.k.cell 1
  cases ha : isElem N with
  | false =>
    rw [ha] at HEL
    have HV : Hid (R = none) := by show _ = _; rw [← HRE.out, ha, if_neg (by decide)]
    clear ha
    go_wp2_with fail
    refine (HEL.out _).mono ?_
    rintro e w4 ⟨rfl, b4⟩
    have HM4 := Lib.hid (HM3.out.bel b4)
    clear b4 k1c HM3
    have hT8 := HM4.out.t
    have hK8 := HM4.out.k
    have hO8 := HM4.out.o
    have r0 := hT8.cell 0
    have f0 := hT8.frozen 0
    have r1 := hT8.cell 1
    have f1 := hT8.frozen 1
    have r2 := hT8.cell 2
    have f2 := hT8.frozen 2
    have r3 := hT8.cell 3
    have f3 := hT8.frozen 3
    have r4 := hT8.cell 4
    have f4 := hT8.frozen 4
    have r5 := hT8.cell 5
    have f5 := hT8.frozen 5
    have k0c := hK8.cell 0
    have k1c := hK8.cell 1
    have k2c := hK8.cell 2
    have k3c := hK8.cell 3
    have k4c := hK8.cell 4
    have k5c := hK8.cell 5
    go_wp2_with fail
    have hF := ((((((hT8.set_ 0 (.int .u8 111)).set_ 1 (.string x)).set_ 2 (.string ⟨#[]⟩)).set_ 3 (.slice none 0 0)).set_ 4 (.int .i64 fr)).set_ 5 (.int .i64 0))
    have s0 : (World.setCell _ _ _).cell? _ = some (.int .u8 111) := hF.cell 0
    have s1 : (World.setCell _ _ _).cell? _ = some (.string x) := hF.cell 1
    have s2 : (World.setCell _ _ _).cell? _ = some (.string ⟨#[]⟩) := hF.cell 2
    have s3 : (World.setCell _ _ _).cell? _ = some (.slice none 0 0) := hF.cell 3
    have s4 : (World.setCell _ _ _).cell? _ = some (.int .i64 fr) := hF.cell 4
    have s5 : (World.setCell _ _ _).cell? _ = some (.int .i64 0) := hF.cell 5
    exact bodyPost_ret (v := .tuple #[.agg #[.int .u8 111, .string x, .string ⟨#[]⟩, .slice none 0 0, .int .i64 fr, .int .i64 0], .bool false]) (by simp [results, Try.f37, go_sem, s0, s1, s2, s3, s4, s5]) rfl ⟨by rw [HV.out]; exact ⟨_, _, _, _, _, _, _, _, rfl⟩, ((((((hO8.far (p := ⟨w.heap.size, 0, none⟩) (Nat.le_refl _) _).far (p := ⟨w.heap.size, 1, none⟩) (Nat.le_refl _) _).far (p := ⟨w.heap.size, 2, none⟩) (Nat.le_refl _) _).far (p := ⟨w.heap.size, 3, none⟩) (Nat.le_refl _) _).far (p := ⟨w.heap.size, 4, none⟩) (Nat.le_refl _) _).far (p := ⟨w.heap.size, 5, none⟩) (Nat.le_refl _) _)⟩
  | true =>
    rw [ha] at HEL
    have HRR : Hid (opnJ s.data.toList k1 [] = R) := by show _ = _; rw [← HRE.out, ha, if_pos rfl]
    clear ha
    go_wp2_with fail
    refine (HEL.out _).mono ?_
    rintro e w4 ⟨rfl, b4⟩
    have HM4 := Lib.hid (HM3.out.bel b4)
    clear b4 k1c HM3 HEL HW
    go_wp2_with fail
    go_loopw [7] (fun z wr => ∃ (j : Nat) (az : List Att) (v : Value) (cs : List Value), j ≤ s.size ∧ az.length ≤ j ∧ R = opnJ s.data.toList j az ∧ OM w g T s j x fr v az cs wr) (fun z wr => s.size - atOf wr g)
    case atStart => exact ⟨k1, [], _, _, hk1, by simp, HRR.out.symm, HM4.out⟩
    case round =>
      obtain ⟨j, az, v, cs, hj, haz, hr, hm⟩ := hrel
      have HV0 := Lib.hid hr
      have HM := Lib.hid hm
      have HMW := Lib.hid hm
      clear hr hm HM4 HRR
      have hj1 : runE gapB s.data.toList j ≤ s.size := by rw [sz_len]; exact runE_le _ _ _ (by rw [← sz_len]; exact hj)
      have hjg := runE_ge gapB s.data.toList j
      have HWG := Lib.hid (fun w hR => twhileG g j s w hR hj hs)
      have HST := Lib.hid (opnJ_step s.data.toList j az (by rw [← sz_len]; exact hj))
      have hrl := runT_len (P := gapB) (l := s.data.toList) (k := j) (by rw [← sz_len]; exact hj)
      obtain ⟨G, hG⟩ : ∃ G, runT gapB s.data.toList j = G := ⟨_, rfl⟩
      obtain ⟨j1, hj1e⟩ : ∃ j1, runE gapB s.data.toList j = j1 := ⟨_, rfl⟩
      rw [hG, hj1e] at hrl
      rw [hj1e] at hj1 hjg HST
      simp only [hG, hj1e] at HWG
      obtain ⟨y, hy⟩ : ∃ y, strOf G = y := ⟨_, rfl⟩
      have hyl : y.toList = G := by rw [← hy, ByteArray.toList_eq, strOf_list]
      simp only [hy] at HWG
      have HYL := Lib.hid hyl
      clear hG hj1e hy hyl
      have HAT := Lib.hid (fun w hR => tattr_any g j1 s w hR hj1 hs)
      have ha62 := atS_one s.data.toList 62 j1 (by decide)
      have hc1 := HM.out.r.c1
      go_wp2_with fail
      refine (HWG.out _ HM.out.r).mono ?_
      rintro e w5 ⟨rfl, hR5, hO5⟩
      have HM5 := Lib.hid (HM.out.only hO5 hR5)
      clear hR5 hO5 HM HWG hc1
      by_cases h62 : bt s.data.toList j1 = 62
      · have HV : Hid (R = some (az, j1 + 1)) := by show _ = _; rw [HV0.out, HST.out, if_pos h62]
        have HTK : Hid (∀ w, Rdr w g s j1 → Calls Try.prog 33 #[.pointer (some ⟨g, 0, none⟩), .string ⟨#[62]⟩] w fun e w' => e = .returned (.bool true) ∧ Rdr w' g s (j1 + 1) ∧ Only g w w') := fun w hR => ttake g j1 s ⟨#[62]⟩ w hR hj1 hs (by decide) true (ha62.trans (decide_eq_true h62))
        clear h62 ha62 HST HAT hrl HYL
        go_wp2_with fail
        refine (HTK.out _ HM5.out.r).mono ?_
        rintro e w6 ⟨rfl, hR6, hO6⟩
        have HM6 := Lib.hid (HM5.out.only hO6 hR6)
        clear hR6 hO6 HM5 HTK
        have c1 := HM6.out.r.c1
        have r5 := HM6.out.k.cell 5
        have f5 := HM6.out.k.frozen 5
        obtain ⟨o6, m6, c6, rfl⟩ := own_shapeT HM6.out.ow
        go_upto_region 7 with fail
        have hlT := HM6.out.lT
        have HK7 : Hid (Blk (w6.setCell ⟨T, 5, none⟩ (.int .i64 ((j1 : Int) + 1))) T 45 #[.int .u8 111, .string x, .string ⟨#[]⟩, .slice o6 m6 c6, .int .i64 fr, .int .i64 ((j1 : Int) + 1)]) := HM6.out.k.set_ 5 _
        have HT7 : Hid (Blk (w6.setCell ⟨T, 5, none⟩ (.int .i64 ((j1 : Int) + 1))) w.heap.size 45 #[.int .u8 0, .string ⟨#[]⟩, .string ⟨#[]⟩, .slice none 0 0, .int .i64 0, .int .i64 0]) := Blk.far HM6.out.t (p := ⟨T, 5, none⟩) (by show w.heap.size ≠ T; omega) _
        have HR7 : Hid (Rdr (w6.setCell ⟨T, 5, none⟩ (.int .i64 ((j1 : Int) + 1))) g s (j1 + 1)) := Blk.far HM6.out.r (p := ⟨T, 5, none⟩) (by show g ≠ T; omega) _
        have HO7 : Hid (Only g w (w6.setCell ⟨T, 5, none⟩ (.int .i64 ((j1 : Int) + 1)))) := HM6.out.o.far (p := ⟨T, 5, none⟩) (by show w.heap.size ≤ T; omega) _
        have HW7 : Hid ((w6.setCell ⟨T, 5, none⟩ (.int .i64 ((j1 : Int) + 1))).ownsRow (T + 1) 47 4 (.slice o6 m6 c6) az.length cs) := ownsRow_setCell_below HM6.out.ow (a := ⟨T, 5, none⟩) (by show T < T + 1; omega) _
        have HA7 := Lib.hid HM6.out.at_
        clear HM6 c1 r5 f5
        generalize w6.setCell ⟨T, 5, none⟩ (.int .i64 ((j1 : Int) + 1)) = W7 at *
        have hT8 := HT7.out
        have hK8 := HK7.out
        have hO8 := HO7.out
        have r0 := hT8.cell 0
        have f0 := hT8.frozen 0
        have r1 := hT8.cell 1
        have f1 := hT8.frozen 1
        have r2 := hT8.cell 2
        have f2 := hT8.frozen 2
        have r3 := hT8.cell 3
        have f3 := hT8.frozen 3
        have r4 := hT8.cell 4
        have f4 := hT8.frozen 4
        have r5 := hT8.cell 5
        have f5 := hT8.frozen 5
        have k0c := hK8.cell 0
        have k1c := hK8.cell 1
        have k2c := hK8.cell 2
        have k3c := hK8.cell 3
        have k4c := hK8.cell 4
        have k5c := hK8.cell 5
        go_wp2_with fail
        have hF6 : ∀ b, b ≠ w.heap.size → ((((((W7.setCell ⟨w.heap.size, 0, none⟩ (.int .u8 111)).setCell ⟨w.heap.size, 1, none⟩ (.string x)).setCell ⟨w.heap.size, 2, none⟩ (.string ⟨#[]⟩)).setCell ⟨w.heap.size, 3, none⟩ (.slice o6 m6 c6)).setCell ⟨w.heap.size, 4, none⟩ (.int .i64 fr)).setCell ⟨w.heap.size, 5, none⟩ (.int .i64 ((j1 : Int) + 1))).heap[b]? = W7.heap[b]? := fun b hb => by
          iterate 6 rw [Below.heap_setCell _ _ _ b hb]
        have hR9 : Rdr W7 g s (j1 + 1) := HR7.out
        have hF := ((((((hT8.set_ 0 (.int .u8 111)).set_ 1 (.string x)).set_ 2 (.string ⟨#[]⟩)).set_ 3 (.slice o6 m6 c6)).set_ 4 (.int .i64 fr)).set_ 5 (.int .i64 ((j1 : Int) + 1)))
        have s0 : (World.setCell _ _ _).cell? _ = some (.int .u8 111) := hF.cell 0
        have s1 : (World.setCell _ _ _).cell? _ = some (.string x) := hF.cell 1
        have s2 : (World.setCell _ _ _).cell? _ = some (.string ⟨#[]⟩) := hF.cell 2
        have s3 : (World.setCell _ _ _).cell? _ = some (.slice o6 m6 c6) := hF.cell 3
        have s4 : (World.setCell _ _ _).cell? _ = some (.int .i64 fr) := hF.cell 4
        have s5 : (World.setCell _ _ _).cell? _ = some (.int .i64 ((j1 : Int) + 1)) := hF.cell 5
        exact bodyPost_ret (v := .tuple #[.agg #[.int .u8 111, .string x, .string ⟨#[]⟩, .slice o6 m6 c6, .int .i64 fr, .int .i64 ((j1 : Int) + 1)], .bool true]) (by simp [results, Try.f37, go_sem, s0, s1, s2, s3, s4, s5]) rfl ⟨by rw [HV.out]; exact ⟨_, cs, rfl, RowG.mono (ok := fun b => T + 1 ≤ b) (fun b hb hl => ⟨by omega, by simp [World.setCell]; exact hl, hF6 b (by omega)⟩) (RowG.own HW7.out (fun g _ h => h)), HA7.out, ((((((hR9.far (p := ⟨w.heap.size, 0, none⟩) (Nat.ne_of_lt hgl) _).far (p := ⟨w.heap.size, 1, none⟩) (Nat.ne_of_lt hgl) _).far (p := ⟨w.heap.size, 2, none⟩) (Nat.ne_of_lt hgl) _).far (p := ⟨w.heap.size, 3, none⟩) (Nat.ne_of_lt hgl) _).far (p := ⟨w.heap.size, 4, none⟩) (Nat.ne_of_lt hgl) _).far (p := ⟨w.heap.size, 5, none⟩) (Nat.ne_of_lt hgl) _)⟩, ((((((hO8.far (p := ⟨w.heap.size, 0, none⟩) (Nat.le_refl _) _).far (p := ⟨w.heap.size, 1, none⟩) (Nat.le_refl _) _).far (p := ⟨w.heap.size, 2, none⟩) (Nat.le_refl _) _).far (p := ⟨w.heap.size, 3, none⟩) (Nat.le_refl _) _).far (p := ⟨w.heap.size, 4, none⟩) (Nat.le_refl _) _).far (p := ⟨w.heap.size, 5, none⟩) (Nat.le_refl _) _)⟩
      · have HST2 : Hid (R = match attJ s.data.toList j1 with
          | none => none
          | some (a, k2) => if j1 = j ∨ (az.any fun b => decide (b.name = a.name)) = true then none else opnJ s.data.toList k2 (az ++ [a])) := by show _ = _; rw [HV0.out, HST.out, if_neg h62]; rfl
        have HTK : Hid (∀ w, Rdr w g s j1 → Calls Try.prog 33 #[.pointer (some ⟨g, 0, none⟩), .string ⟨#[62]⟩] w fun e w' => e = .returned (.bool false) ∧ Rdr w' g s j1 ∧ Only g w w') := fun w hR => ttake g j1 s ⟨#[62]⟩ w hR hj1 hs (by decide) false (ha62.trans (decide_eq_false h62))
        clear h62 ha62 HST HV0
        go_wp2_with fail
        refine (HTK.out _ HM5.out.r).mono ?_
        rintro e w6 ⟨rfl, hR6, hO6⟩
        have HM6 := Lib.hid (HM5.out.only hO6 hR6)
        clear hR6 hO6 HM5 HTK
        cases hat : attJ s.data.toList j1 with
        | none =>
          rw [hat] at HST2 HAT
          have HV : Hid (R = none) := HST2.out
          have HAT2 : Hid (∀ w, Rdr w g s j1 → Calls Try.prog 52 #[.pointer (some ⟨g, 0, none⟩)] w fun e w' => (∃ (n v : ByteArray) (f t : Int), e = .returned (.tuple #[.agg #[.string n, .string v, .int .i64 f, .int .i64 t], .bool false])) ∧ Only g w w') := HAT.out
          clear hat HST2 HAT HYL
          go_wp2_with fail
          refine (HAT2.out _ HM6.out.r).mono ?_
          rintro e w7 ⟨⟨an, av, af, at_, rfl⟩, hO7⟩
          have hT7 := Blk.only HM6.out.t hO7 (Nat.ne_of_gt hgl)
          have hK7 := Blk.only HM6.out.k hO7 (by have := HM6.out.lT; omega)
          have hO7' := HM6.out.o.trans hO7
          obtain ⟨o6, m6, c6, rfl⟩ := own_shapeT HM6.out.ow
          clear hO7 HM6 HAT2
          go_upto_region 9 with fail
          have hT8 := hT7.alloc (.cells #[.string an, .string av, .int .i64 af, .int .i64 at_] 47)
          have hK8 := hK7.alloc (.cells #[.string an, .string av, .int .i64 af, .int .i64 at_] 47)
          have hO8 := hO7'.alloc (.cells #[.string an, .string av, .int .i64 af, .int .i64 at_] 47)
          generalize w7.alloc (.cells #[.string an, .string av, .int .i64 af, .int .i64 at_] 47) = W8 at *
          clear hT7 hK7 hO7'
          have r0 := hT8.cell 0
          have f0 := hT8.frozen 0
          have r1 := hT8.cell 1
          have f1 := hT8.frozen 1
          have r2 := hT8.cell 2
          have f2 := hT8.frozen 2
          have r3 := hT8.cell 3
          have f3 := hT8.frozen 3
          have r4 := hT8.cell 4
          have f4 := hT8.frozen 4
          have r5 := hT8.cell 5
          have f5 := hT8.frozen 5
          have k0c := hK8.cell 0
          have k1c := hK8.cell 1
          have k2c := hK8.cell 2
          have k3c := hK8.cell 3
          have k4c := hK8.cell 4
          have k5c := hK8.cell 5
          go_wp2_with fail
          have hF := ((((((hT8.set_ 0 (.int .u8 111)).set_ 1 (.string x)).set_ 2 (.string ⟨#[]⟩)).set_ 3 (.slice o6 m6 c6)).set_ 4 (.int .i64 fr)).set_ 5 (.int .i64 0))
          have s0 : (World.setCell _ _ _).cell? _ = some (.int .u8 111) := hF.cell 0
          have s1 : (World.setCell _ _ _).cell? _ = some (.string x) := hF.cell 1
          have s2 : (World.setCell _ _ _).cell? _ = some (.string ⟨#[]⟩) := hF.cell 2
          have s3 : (World.setCell _ _ _).cell? _ = some (.slice o6 m6 c6) := hF.cell 3
          have s4 : (World.setCell _ _ _).cell? _ = some (.int .i64 fr) := hF.cell 4
          have s5 : (World.setCell _ _ _).cell? _ = some (.int .i64 0) := hF.cell 5
          exact bodyPost_ret (v := .tuple #[.agg #[.int .u8 111, .string x, .string ⟨#[]⟩, .slice o6 m6 c6, .int .i64 fr, .int .i64 0], .bool false]) (by simp [results, Try.f37, go_sem, s0, s1, s2, s3, s4, s5]) rfl ⟨by rw [HV.out]; exact ⟨_, _, _, _, _, _, _, _, rfl⟩, ((((((hO8.far (p := ⟨w.heap.size, 0, none⟩) (Nat.le_refl _) _).far (p := ⟨w.heap.size, 1, none⟩) (Nat.le_refl _) _).far (p := ⟨w.heap.size, 2, none⟩) (Nat.le_refl _) _).far (p := ⟨w.heap.size, 3, none⟩) (Nat.le_refl _) _).far (p := ⟨w.heap.size, 4, none⟩) (Nat.le_refl _) _).far (p := ⟨w.heap.size, 5, none⟩) (Nat.le_refl _) _)⟩
        | some ak =>
          obtain ⟨a, k2⟩ := ak
          rw [hat] at HST2 HAT
          dsimp only at HST2
          have hbd := attJ_bd (by rw [← sz_len]; exact hj1) hat
          rw [← HL.out] at hbd
          obtain ⟨hb1, hb2, _, _, _, _⟩ := hbd
          have HAT2 : Hid (∀ w, Rdr w g s j1 → Calls Try.prog 52 #[.pointer (some ⟨g, 0, none⟩)] w fun e w' => (e = .returned (.tuple #[.agg #[.string (strOf a.name), .string (strOf a.val), .int .i64 a.frm, .int .i64 a.to], .bool true]) ∧ Rdr w' g s k2) ∧ Only g w w') := HAT.out
          clear hat HAT
          go_wp2_with fail
          refine (HAT2.out _ HM6.out.r).mono ?_
          rintro e w7 ⟨⟨rfl, hR7⟩, hO7⟩
          have hM7 := HM6.out.only hO7 hR7
          have hM8 := hM7.al (.cells #[.string (strOf a.name), .string (strOf a.val), .int .i64 a.frm, .int .i64 a.to] 47)
          have hD8 := Blk.new w7 47 #[.string (strOf a.name), .string (strOf a.val), .int .i64 a.frm, .int .i64 a.to]
          have HM8 := Lib.hid hM8
          have HD8 := Lib.hid hD8
          clear hO7 hR7 hM7 hM8 hD8 HM6 HAT2
          go_upto_region 9 with fail
          generalize w7.alloc (.cells #[.string (strOf a.name), .string (strOf a.val), .int .i64 a.frm, .int .i64 a.to] 47) = W8 at *
          generalize w7.heap.size = D at *
          by_cases hgap : j1 = j
          · have HV : Hid (R = none) := by show _ = _; rw [HST2.out, if_pos (.inl hgap)]
            have y1 : y.toList.isEmpty = true := by
              rw [HYL.out]
              have : G = [] := List.length_eq_zero_iff.1 (by omega)
              rw [this]; rfl
            have y2 : y.toList = [] := by rw [HYL.out]; exact List.length_eq_zero_iff.1 (by omega)
            obtain ⟨o6, m6, c6, rfl⟩ := own_shapeT HM8.out.ow
            have hT8 := HM8.out.t
            have hK8 := HM8.out.k
            have hO8 := HM8.out.o
            clear hgap HST2 HYL HM8 HD8
            have r0 := hT8.cell 0
            have f0 := hT8.frozen 0
            have r1 := hT8.cell 1
            have f1 := hT8.frozen 1
            have r2 := hT8.cell 2
            have f2 := hT8.frozen 2
            have r3 := hT8.cell 3
            have f3 := hT8.frozen 3
            have r4 := hT8.cell 4
            have f4 := hT8.frozen 4
            have r5 := hT8.cell 5
            have f5 := hT8.frozen 5
            have k0c := hK8.cell 0
            have k1c := hK8.cell 1
            have k2c := hK8.cell 2
            have k3c := hK8.cell 3
            have k4c := hK8.cell 4
            have k5c := hK8.cell 5
            go_wp2_with fail
            have hF := ((((((hT8.set_ 0 (.int .u8 111)).set_ 1 (.string x)).set_ 2 (.string ⟨#[]⟩)).set_ 3 (.slice o6 m6 c6)).set_ 4 (.int .i64 fr)).set_ 5 (.int .i64 0))
            have s0 : (World.setCell _ _ _).cell? _ = some (.int .u8 111) := hF.cell 0
            have s1 : (World.setCell _ _ _).cell? _ = some (.string x) := hF.cell 1
            have s2 : (World.setCell _ _ _).cell? _ = some (.string ⟨#[]⟩) := hF.cell 2
            have s3 : (World.setCell _ _ _).cell? _ = some (.slice o6 m6 c6) := hF.cell 3
            have s4 : (World.setCell _ _ _).cell? _ = some (.int .i64 fr) := hF.cell 4
            have s5 : (World.setCell _ _ _).cell? _ = some (.int .i64 0) := hF.cell 5
            exact bodyPost_ret (v := .tuple #[.agg #[.int .u8 111, .string x, .string ⟨#[]⟩, .slice o6 m6 c6, .int .i64 fr, .int .i64 0], .bool false]) (by simp [results, Try.f37, go_sem, s0, s1, s2, s3, s4, s5]) rfl ⟨by rw [HV.out]; exact ⟨_, _, _, _, _, _, _, _, rfl⟩, ((((((hO8.far (p := ⟨w.heap.size, 0, none⟩) (Nat.le_refl _) _).far (p := ⟨w.heap.size, 1, none⟩) (Nat.le_refl _) _).far (p := ⟨w.heap.size, 2, none⟩) (Nat.le_refl _) _).far (p := ⟨w.heap.size, 3, none⟩) (Nat.le_refl _) _).far (p := ⟨w.heap.size, 4, none⟩) (Nat.le_refl _) _).far (p := ⟨w.heap.size, 5, none⟩) (Nat.le_refl _) _)⟩
          · have y1 : y.toList.isEmpty = false := by
              rw [HYL.out]
              cases G with
              | nil => simp at hrl; omega
              | cons c t => rfl
            have y2 : (y.toList == []) = false := by
              rw [HYL.out]
              cases G with
              | nil => simp at hrl; omega
              | cons c t => rfl
            have d0 : W8.cell? ⟨D, 0, none⟩ = some (.string (strOf a.name)) := HD8.out.cell 0
            have t3 := HM8.out.k.cell 3
            have HH := Lib.hid (hasA_any az cs (fun b => T + 1 ≤ b) true v a.name D W8 (RowG.own HM8.out.ow (fun g _ h => h)) HM8.out.at_ (by omega) d0 HD8.out.lt)
            cases hany : (az.any fun b => decide (b.name = a.name)) with
            | true =>
              have HV : Hid (R = none) := by show _ = _; rw [HST2.out, if_pos (.inr hany)]
              rw [hany] at HH
              clear hany HST2 HYL
              go_wp2_with fail
              refine (HH.out).mono ?_
              rintro e w9 ⟨rfl, b9⟩
              have HM9 := Lib.hid (HM8.out.bel b9)
              obtain ⟨o6, m6, c6, rfl⟩ := own_shapeT HM9.out.ow
              have hT8 := HM9.out.t
              have hK8 := HM9.out.k
              have hO8 := HM9.out.o
              clear b9 HM8 HD8 HM9 HH d0 t3
              have r0 := hT8.cell 0
              have f0 := hT8.frozen 0
              have r1 := hT8.cell 1
              have f1 := hT8.frozen 1
              have r2 := hT8.cell 2
              have f2 := hT8.frozen 2
              have r3 := hT8.cell 3
              have f3 := hT8.frozen 3
              have r4 := hT8.cell 4
              have f4 := hT8.frozen 4
              have r5 := hT8.cell 5
              have f5 := hT8.frozen 5
              have k0c := hK8.cell 0
              have k1c := hK8.cell 1
              have k2c := hK8.cell 2
              have k3c := hK8.cell 3
              have k4c := hK8.cell 4
              have k5c := hK8.cell 5
              go_wp2_with fail
              have hF := ((((((hT8.set_ 0 (.int .u8 111)).set_ 1 (.string x)).set_ 2 (.string ⟨#[]⟩)).set_ 3 (.slice o6 m6 c6)).set_ 4 (.int .i64 fr)).set_ 5 (.int .i64 0))
              have s0 : (World.setCell _ _ _).cell? _ = some (.int .u8 111) := hF.cell 0
              have s1 : (World.setCell _ _ _).cell? _ = some (.string x) := hF.cell 1
              have s2 : (World.setCell _ _ _).cell? _ = some (.string ⟨#[]⟩) := hF.cell 2
              have s3 : (World.setCell _ _ _).cell? _ = some (.slice o6 m6 c6) := hF.cell 3
              have s4 : (World.setCell _ _ _).cell? _ = some (.int .i64 fr) := hF.cell 4
              have s5 : (World.setCell _ _ _).cell? _ = some (.int .i64 0) := hF.cell 5
              exact bodyPost_ret (v := .tuple #[.agg #[.int .u8 111, .string x, .string ⟨#[]⟩, .slice o6 m6 c6, .int .i64 fr, .int .i64 0], .bool false]) (by simp [results, Try.f37, go_sem, s0, s1, s2, s3, s4, s5]) rfl ⟨by rw [HV.out]; exact ⟨_, _, _, _, _, _, _, _, rfl⟩, ((((((hO8.far (p := ⟨w.heap.size, 0, none⟩) (Nat.le_refl _) _).far (p := ⟨w.heap.size, 1, none⟩) (Nat.le_refl _) _).far (p := ⟨w.heap.size, 2, none⟩) (Nat.le_refl _) _).far (p := ⟨w.heap.size, 3, none⟩) (Nat.le_refl _) _).far (p := ⟨w.heap.size, 4, none⟩) (Nat.le_refl _) _).far (p := ⟨w.heap.size, 5, none⟩) (Nat.le_refl _) _)⟩
            | false =>
              have HV2 : Hid (R = opnJ s.data.toList k2 (az ++ [a])) := by show _ = _; rw [HST2.out, if_neg (fun h => by rcases h with h | h; exact hgap h; rw [hany] at h; cases h)]
              rw [hany] at HH
              clear hany HST2 HYL d0 t3
              have t3 := HM8.out.k.cell 3
              go_wp2_with fail
              refine (HH.out).mono ?_
              rintro e w9 ⟨rfl, b9⟩
              have HM9 := Lib.hid (HM8.out.bel b9)
              have HD9 := Lib.hid (HD8.out.below b9 HD8.out.lt)
              clear b9 HM8 HD8 HH t3
              obtain ⟨o6, m6, c6, rfl⟩ := own_shapeT HM9.out.ow
              obtain ⟨i0, hi, hz0, hz1, hz2⟩ := info_parts infoA
              have t3 : w9.cell? ⟨T, 3, none⟩ = some (.slice o6 m6 c6) := HM9.out.k.cell 3
              have d0 := HD9.out.cell 0
              have d1 := HD9.out.cell 1
              have d2 := HD9.out.cell 2
              have d3 := HD9.out.cell 3
              have e3 : az.length + 1 ≤ maxLen := by unfold maxLen; omega
              have e4 : (az.length + 1) * 48 ≤ 140737488355328 := by omega
              have e5 : T + 1 ≤ (w9.alloc (.cells #[.string (strOf a.name), .string (strOf a.val), .int .i64 a.frm, .int .i64 a.to] 47)).heap.size := by have := HM9.out.k.lt; simp; omega
              have hnc := HM9.out.ow.alloc (.cells #[.string (strOf a.name), .string (strOf a.val), .int .i64 a.frm, .int .i64 a.to] 47)
              obtain ⟨an, han⟩ : ∃ an, strOf a.name = an := ⟨_, rfl⟩
              obtain ⟨av, hav⟩ : ∃ av, strOf a.val = av := ⟨_, rfl⟩
              have HAN := Lib.hid han
              have HAV := Lib.hid hav
              rw [han] at d0
              rw [hav] at d1
              rw [han, hav] at hnc e5
              clear han hav
              go_wp2_with (at_builtin; refine wpList_append_lies _ rfl _ _ 43 rfl (T + 1) 47 i0 zeroA 4 48 Try.underlying43 hi hz0 hz1 hz2 rfl (by decide) (.slice o6 m6 c6) az.length cs rfl hnc ⟨w9.heap.size, 0, none⟩ 1 1 [.string an, .string av, .int .i64 a.frm, .int .i64 a.to] rfl rfl (cells_newT w9 #[.string an, .string av, .int .i64 a.frm, .int .i64 a.to] _) (by simp [Value.oneCell']) (by omega) e3 e4 e5 (w9.heap.size + 1) (by simp) ?_; intro g3 cap3 w3 hown3 hgrow3 hfr3 hlt3; have hK3 : Blk w3 T 45 #[.int .u8 111, .string x, .string ⟨#[]⟩, .slice o6 m6 c6, .int .i64 fr, .int .i64 0] := (hgrow3.block T (by have := HM9.out.k.lt; simp; omega) (fun h => by have := (HM9.out.ow.lt _ h.symm).1; omega)).trans (HM9.out.k.alloc _); have m3 := hK3.cell 3; have mf := hK3.frozen 3)
              have hown3' : w3.ownsRow (T + 1) 47 4 (.slice (some ⟨g3, 0, none⟩) (az.length + 1) cap3) (az.length + 1) (cs ++ [.string (strOf a.name), .string (strOf a.val), .int .i64 a.frm, .int .i64 a.to]) := by rw [HAN.out, HAV.out]; exact hown3
              have HM10 := Lib.hid (HM9.out.att PlG.exact_ hown3' hgrow3)
              go_roundw
              case rel => exact ⟨k2, az ++ [a], _, _, hb2, by rw [List.length_append]; simp; omega, HV2.out, HM10.out⟩
              case measure =>
                have h1 := HMW.out.r.at_
                have h2 := HM10.out.r.at_
                omega
end Go.Proofs.Ytlogjghbdnaedaa
