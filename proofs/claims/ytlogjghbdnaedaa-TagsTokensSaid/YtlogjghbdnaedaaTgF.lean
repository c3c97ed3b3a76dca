/- Walks: the program's tags reader: an attribute (chapter 11). -/
import Derived.Test.YtlogjghbdnaedaaTgE
import Derived.Test.YtlogjghbdnaedaaTgB
namespace Go.Proofs.Ytlogjghbdnaedaa
open Go.RowKit
set_option linter.unusedVariables false
set_option linter.unusedSimpArgs false
/-- What the program says of an attribute. -/
def AttR (o : Option (Att × Nat)) (g : Nat) (s : ByteArray) (e : Ending) (w : World) : Prop := match o with
  | some (a, k2) => e = .returned (.tuple #[.agg #[.string (strOf a.name), .string (strOf a.val), .int .i64 a.frm, .int .i64 a.to], .bool true]) ∧ Rdr w g s k2
  | none => ∃ (n v : ByteArray) (f t : Int), e = .returned (.tuple #[.agg #[.string n, .string v, .int .i64 f, .int .i64 t], .bool false])
/-- While an attribute is read: the result's cell, and the attribute's own. -/
structure AM (w : World) (g A : Nat) (s : ByteArray) (j : Nat) (cs : Array Value) (wr : World) : Prop where
  lg : g < w.heap.size
  lA : w.heap.size < A
  r : Rdr wr g s j
  t : Blk wr w.heap.size 47 #[.string ⟨#[]⟩, .string ⟨#[]⟩, .int .i64 0, .int .i64 0]
  a : Blk wr A 47 cs
  o : Only g w wr
section
variable {w wr w' : World} {g A j j' : Nat} {s : ByteArray} {cs : Array Value}
theorem AM.drew (h : AM w g A s j cs wr) : AM w g A s j cs wr.drew := ⟨h.lg, h.lA, h.r, h.t, h.a, h.o.drew⟩
theorem AM.only (h : AM w g A s j cs wr) (ho : Only g wr w') (hr : Rdr w' g s j') : AM w g A s j' cs w' :=
  ⟨h.lg, h.lA, hr, Blk.only h.t ho (by have := h.lg; omega), Blk.only h.a ho (by have := h.lg; have := h.lA; omega), h.o.trans ho⟩
theorem AM.bel (h : AM w g A s j cs wr) (hb : Below wr.heap.size wr w') : AM w g A s j cs w' := h.only (Only.of_below hb) (h.r.bel hb)
theorem AM.put (h : AM w g A s j cs wr) (i : Nat) (u : Value) : AM w g A s j (cs.setIfInBounds i u) (wr.setCell ⟨A, i, none⟩ u) :=
  ⟨h.lg, h.lA, Blk.far h.r (p := ⟨A, i, none⟩) (by have := h.lg; have := h.lA; show g ≠ A; omega) u, Blk.far h.t (p := ⟨A, i, none⟩) (by have := h.lA; show w.heap.size ≠ A; omega) u, h.a.set_ i u, h.o.far (p := ⟨A, i, none⟩) (by have := h.lA; show w.heap.size ≤ A; omega) u⟩
end
set_option maxRecDepth 100000 in
set_option maxHeartbeats 16000000 in
theorem tattr_any (g k : Nat) (s : ByteArray) (w : World) (hR : Rdr w g s k) (hk : k ≤ s.size) (hs : s.size ≤ 1000000) :
    Calls Try.prog 52 #[.pointer (some ⟨g, 0, none⟩)] w fun e w' => AttR (attJ s.data.toList k) g s e w' ∧ Only g w w' := by
  have HL := Lib.hid (sz_len s)
  have hgl := hR.lt
  have hk1 : runE nameB s.data.toList k ≤ s.size := by rw [sz_len]; exact runE_le _ _ _ (by rw [← sz_len]; exact hk)
  have HW := Lib.hid (fun w hR => twhileL g k s w hR hk hs)
  have HAJ : Hid (attJ s.data.toList k = if isAttr (runT nameB s.data.toList k) = true ∧ atS s.data.toList sEq (runE nameB s.data.toList k) = true then
    match sayJ 34 60 (s.data.toList.drop (runE nameB s.data.toList k + 2)) with
    | none => none
    | some (v, m) => if bt s.data.toList (runE nameB s.data.toList k + 2 + m) = 34 then some (⟨runT nameB s.data.toList k, v, runE nameB s.data.toList k + 2, runE nameB s.data.toList k + 2 + m⟩, runE nameB s.data.toList k + 2 + m + 1) else none
  else none) := rfl
  have HEL := Lib.hid (fun w => tattr (strOf (runT nameB s.data.toList k)) w)
  rw [strOf_list] at HEL
  obtain ⟨N, hN⟩ : ∃ N, runT nameB s.data.toList k = N := ⟨_, rfl⟩
  obtain ⟨k1, hk1e⟩ : ∃ k1, runE nameB s.data.toList k = k1 := ⟨_, rfl⟩
  rw [hN, hk1e] at HAJ
  rw [hN] at HEL
  simp only [hN, hk1e] at HW
  rw [hk1e] at hk1
  obtain ⟨x, hx⟩ : ∃ x, strOf N = x := ⟨_, rfl⟩
  have HX := Lib.hid hx
  rw [hx] at HEL
  simp only [hx] at HW
  have HT0 := Lib.hid (Blk.new w 47 #[.string ⟨#[]⟩, .string ⟨#[]⟩, .int .i64 0, .int .i64 0])
  have HR0 := Lib.hid (hR.alloc (.cells #[.string ⟨#[]⟩, .string ⟨#[]⟩, .int .i64 0, .int .i64 0] 47))
  have HO0 := Lib.hid ((Only.refl g w).alloc (.cells #[.string ⟨#[]⟩, .string ⟨#[]⟩, .int .i64 0, .int .i64 0] 47))
  have HS0 : Hid (w.heap.size < (w.alloc (.cells #[.string ⟨#[]⟩, .string ⟨#[]⟩, .int .i64 0, .int .i64 0] 47)).heap.size) := by show _ < _; simp
  clear hR hN hk1e hx
  go_enter Try.func52, Try.ntmps52
  go_upto_region 1 with fail
  generalize w.alloc (.cells #[.string ⟨#[]⟩, .string ⟨#[]⟩, .int .i64 0, .int .i64 0] 47) = W0 at *
  go_wp2_with fail
  refine (HW.out _ HR0.out).mono ?_
  rintro e w2 ⟨rfl, hR2, hO2⟩
  have HSZ : Hid (w.heap.size < w2.heap.size) := Nat.lt_of_lt_of_le HS0.out hO2.size
  have HM3 : Hid (AM w g w2.heap.size s k1 #[.string x, .string ⟨#[]⟩, .int .i64 0, .int .i64 0] (w2.alloc (.cells #[.string x, .string ⟨#[]⟩, .int .i64 0, .int .i64 0] 47))) :=
    ⟨hgl, HSZ.out, hR2.alloc _, (Blk.only HT0.out hO2 (Nat.ne_of_gt hgl)).alloc _, Blk.new w2 47 _, (HO0.out.trans hO2).alloc _⟩
  clear hR2 hO2 HT0 HR0 HO0 HS0 HSZ
  go_upto_region 2 with fail
  generalize hW : w2.alloc (.cells #[.string x, .string ⟨#[]⟩, .int .i64 0, .int .i64 0] 47) = W3 at *
  generalize hA : w2.heap.size = A at *
  clear hW hA
  have c1 := HM3.out.r.c1
  have r0 := HM3.out.a.cell 0
  cases ha : isAttr N with
  | false =>
    have HV : Hid (attJ s.data.toList k = none) := by show _ = _; rw [HAJ.out, if_neg (fun h => by rw [ha] at h; cases h.1)]
    rw [ha] at HEL
    clear ha HAJ
    go_wp2_with fail
    refine (HEL.out _).mono ?_
    rintro e w4 ⟨rfl, b4⟩
    have HM4 := Lib.hid (HM3.out.bel b4)
    clear b4 c1 r0 HM3
    have r0 := HM4.out.a.cell 0
    have r1 := HM4.out.a.cell 1
    have r2 := HM4.out.a.cell 2
    have r3 := HM4.out.a.cell 3
    have t0 := HM4.out.t.cell 0
    have f0 := HM4.out.t.frozen 0
    have t1 := HM4.out.t.cell 1
    have f1 := HM4.out.t.frozen 1
    have t2 := HM4.out.t.cell 2
    have f2 := HM4.out.t.frozen 2
    have t3 := HM4.out.t.cell 3
    have f3 := HM4.out.t.frozen 3
    go_wp2_with fail
    have hT9 := HM4.out.t
    have hO9 := HM4.out.o
    have hF := (((hT9.set_ 0 (.string x)).set_ 1 (.string ⟨#[]⟩)).set_ 2 (.int .i64 0)).set_ 3 (.int .i64 0)
    have s0 : (World.setCell _ _ _).cell? _ = some (.string x) := hF.cell 0
    have s1 : (World.setCell _ _ _).cell? _ = some (.string ⟨#[]⟩) := hF.cell 1
    have s2 : (World.setCell _ _ _).cell? _ = some (.int .i64 0) := hF.cell 2
    have s3 : (World.setCell _ _ _).cell? _ = some (.int .i64 0) := hF.cell 3
    exact bodyPost_ret (v := .tuple #[.agg #[.string x, .string ⟨#[]⟩, .int .i64 0, .int .i64 0], .bool false]) (by simp [results, Try.f52, go_sem, s0, s1, s2, s3]) rfl ⟨by rw [HV.out]; exact ⟨_, _, _, _, rfl⟩, (((hO9.far (p := ⟨w.heap.size, 0, none⟩) (Nat.le_refl _) _).far (p := ⟨w.heap.size, 1, none⟩) (Nat.le_refl _) _).far (p := ⟨w.heap.size, 2, none⟩) (Nat.le_refl _) _).far (p := ⟨w.heap.size, 3, none⟩) (Nat.le_refl _) _⟩
  | true =>
    rw [ha] at HEL
    have hp : ((⟨#[61, 34]⟩ : ByteArray).data.toList) = sEq := rfl
    cases hq : atS s.data.toList sEq k1 with
    | false =>
      have HV : Hid (attJ s.data.toList k = none) := by show _ = _; rw [HAJ.out, if_neg (fun h => by rw [hq] at h; cases h.2)]
      have HT : Hid (∀ w, Rdr w g s k1 → Calls Try.prog 33 #[.pointer (some ⟨g, 0, none⟩), .string ⟨#[61, 34]⟩] w fun e w' => e = .returned (.bool false) ∧ Rdr w' g s k1 ∧ Only g w w') := fun w hR => ttake g k1 s ⟨#[61, 34]⟩ w hR hk1 hs (by decide) false hq
      clear ha hq hp HAJ
      go_wp2_with fail
      refine (HEL.out _).mono ?_
      rintro e w4 ⟨rfl, b4⟩
      have HM4' := Lib.hid (HM3.out.bel b4)
      clear b4 c1 r0 HM3
      go_wp2_with fail
      refine (HT.out _ HM4'.out.r).mono ?_
      rintro e w5 ⟨rfl, hR5, hO5⟩
      have HM4 := Lib.hid (HM4'.out.only hO5 hR5)
      clear hR5 hO5 HM4'
      have r0 := HM4.out.a.cell 0
      have r1 := HM4.out.a.cell 1
      have r2 := HM4.out.a.cell 2
      have r3 := HM4.out.a.cell 3
      have t0 := HM4.out.t.cell 0
      have f0 := HM4.out.t.frozen 0
      have t1 := HM4.out.t.cell 1
      have f1 := HM4.out.t.frozen 1
      have t2 := HM4.out.t.cell 2
      have f2 := HM4.out.t.frozen 2
      have t3 := HM4.out.t.cell 3
      have f3 := HM4.out.t.frozen 3
      go_wp2_with fail
      have hT9 := HM4.out.t
      have hO9 := HM4.out.o
      have hF := (((hT9.set_ 0 (.string x)).set_ 1 (.string ⟨#[]⟩)).set_ 2 (.int .i64 0)).set_ 3 (.int .i64 0)
      have s0 : (World.setCell _ _ _).cell? _ = some (.string x) := hF.cell 0
      have s1 : (World.setCell _ _ _).cell? _ = some (.string ⟨#[]⟩) := hF.cell 1
      have s2 : (World.setCell _ _ _).cell? _ = some (.int .i64 0) := hF.cell 2
      have s3 : (World.setCell _ _ _).cell? _ = some (.int .i64 0) := hF.cell 3
      exact bodyPost_ret (v := .tuple #[.agg #[.string x, .string ⟨#[]⟩, .int .i64 0, .int .i64 0], .bool false]) (by simp [results, Try.f52, go_sem, s0, s1, s2, s3]) rfl ⟨by rw [HV.out]; exact ⟨_, _, _, _, rfl⟩, (((hO9.far (p := ⟨w.heap.size, 0, none⟩) (Nat.le_refl _) _).far (p := ⟨w.heap.size, 1, none⟩) (Nat.le_refl _) _).far (p := ⟨w.heap.size, 2, none⟩) (Nat.le_refl _) _).far (p := ⟨w.heap.size, 3, none⟩) (Nat.le_refl _) _⟩
    | true =>
      have hk2 : k1 + 2 ≤ s.size := by
        rcases atS_len hq with h | h
        · have e : sEq.length = 2 := rfl
          have := HL.out
          omega
        · cases h
      have HT : Hid (∀ w, Rdr w g s k1 → Calls Try.prog 33 #[.pointer (some ⟨g, 0, none⟩), .string ⟨#[61, 34]⟩] w fun e w' => e = .returned (.bool true) ∧ Rdr w' g s (k1 + 2) ∧ Only g w w') := fun w hR => ttake g k1 s ⟨#[61, 34]⟩ w hR hk1 hs (by decide) true hq
      have HAJ2 : Hid (attJ s.data.toList k = match sayJ 34 60 (s.data.toList.drop (k1 + 2)) with
        | none => none
        | some (v, m) => if bt s.data.toList (k1 + 2 + m) = 34 then some (⟨N, v, k1 + 2, k1 + 2 + m⟩, k1 + 2 + m + 1) else none) := by show _ = _; rw [HAJ.out, if_pos ⟨ha, hq⟩]
      have HSY := Lib.hid (fun w hR => tsays g (k1 + 2) 34 60 s w hR hk2 hs ⟨by omega, by omega⟩ (by omega))
      clear ha hq hp HAJ
      go_wp2_with fail
      refine (HEL.out _).mono ?_
      rintro e w4 ⟨rfl, b4⟩
      have HM4' := Lib.hid (HM3.out.bel b4)
      clear b4 c1 r0 HM3
      go_wp2_with fail
      refine (HT.out _ HM4'.out.r).mono ?_
      rintro e w5 ⟨rfl, hR5, hO5⟩
      have HM5 := Lib.hid (HM4'.out.only hO5 hR5)
      clear hR5 hO5 HM4'
      have c1 := HM5.out.r.c1
      have r2 := HM5.out.a.cell 2
      have f2 := HM5.out.a.frozen 2
      go_upto_region 5 with fail
      have HM6 : Hid (AM w g A s (k1 + 2) #[.string x, .string ⟨#[]⟩, .int .i64 ((k1 : Int) + 2), .int .i64 0] (w5.setCell ⟨A, 2, none⟩ (.int .i64 ((k1 : Int) + 2)))) := HM5.out.put 2 _
      clear HM5 c1 r2 f2
      generalize w5.setCell ⟨A, 2, none⟩ (.int .i64 ((k1 : Int) + 2)) = W6 at *
      cases hsj : sayJ 34 60 (s.data.toList.drop (k1 + 2)) with
      | none =>
        rw [hsj] at HSY HAJ2
        have HV : Hid (attJ s.data.toList k = none) := HAJ2.out
        clear hsj HAJ2
        go_wp2_with fail
        refine (HSY.out _ HM6.out.r).mono ?_
        rintro e w7 ⟨⟨y, j, rfl, hj, hR7⟩, hO7⟩
        have HM7 := Lib.hid (HM6.out.only hO7 hR7)
        clear hR7 hO7 HM6 HSY
        have hM7 := HM7.out
        have q1 : w7.drew.cell? ⟨A, 1, none⟩ = some (.string ⟨#[]⟩) := hM7.a.cell 1
        have u1 : w7.drew.frozen? ⟨A, 1, none⟩ = false := hM7.a.frozen 1
        have q1' : w7.cell? ⟨A, 1, none⟩ = some (.string ⟨#[]⟩) := hM7.a.cell 1
        have u1' : w7.frozen? ⟨A, 1, none⟩ = false := hM7.a.frozen 1
        have q3 : w7.drew.cell? ⟨A, 3, none⟩ = some (.int .i64 0) := hM7.a.cell 3
        have u3 : w7.drew.frozen? ⟨A, 3, none⟩ = false := hM7.a.frozen 3
        have q3' : w7.cell? ⟨A, 3, none⟩ = some (.int .i64 0) := hM7.a.cell 3
        have u3' : w7.frozen? ⟨A, 3, none⟩ = false := hM7.a.frozen 3
        have HM8 : Hid (AM w g A s j #[.string x, .string y, .int .i64 ((k1 : Int) + 2), .int .i64 j] ((w7.setCell ⟨A, 1, none⟩ (.string y)).setCell ⟨A, 3, none⟩ (.int .i64 j))) := (hM7.put 1 (.string y)).put 3 (.int .i64 j)
        have K1 : w7.drew.cell? ⟨g, 0, none⟩ = some (.string s) ∧ w7.drew.cell? ⟨g, 1, none⟩ = some (.int .i64 j) := hM7.r.both
        have K2 : (w7.setCell ⟨A, 1, none⟩ (.string y)).drew.cell? ⟨g, 0, none⟩ = some (.string s) ∧ (w7.setCell ⟨A, 1, none⟩ (.string y)).drew.cell? ⟨g, 1, none⟩ = some (.int .i64 j) := (hM7.put 1 (.string y)).r.both
        have K3 : ((w7.setCell ⟨A, 1, none⟩ (.string y)).setCell ⟨A, 3, none⟩ (.int .i64 j)).drew.cell? ⟨g, 0, none⟩ = some (.string s) ∧ ((w7.setCell ⟨A, 1, none⟩ (.string y)).setCell ⟨A, 3, none⟩ (.int .i64 j)).drew.cell? ⟨g, 1, none⟩ = some (.int .i64 j) := HM8.out.r.both
        go_wp2_with fail
        go_region_held3 (fun w' => w'.cell? ⟨g, 0, none⟩ = some (.string s) ∧ w'.cell? ⟨g, 1, none⟩ = some (.int .i64 j)) (first | (with_reducible exact K1) | (with_reducible exact K2) | (with_reducible exact K3)) (fail)
        have HM9 := Lib.hid HM8.out.drew
        clear HM8 K1 K2 K3 hM7 q1 u1 q1' u1' q3 u3 q3' u3'
        generalize ((w7.setCell ⟨A, 1, none⟩ (.string y)).setCell ⟨A, 3, none⟩ (.int .i64 j)).drew = w9 at *
        clear HM7
        have hM10 := HM9.out.drew
        have K1 : w9.drew.cell? ⟨A, 0, none⟩ = some (.string x) ∧ w9.drew.cell? ⟨A, 1, none⟩ = some (.string y) ∧ w9.drew.cell? ⟨A, 2, none⟩ = some (.int .i64 ((k1 : Int) + 2)) ∧ w9.drew.cell? ⟨A, 3, none⟩ = some (.int .i64 j) := ⟨hM10.a.cell 0, hM10.a.cell 1, hM10.a.cell 2, hM10.a.cell 3⟩
        have K3 : ((((w9.setCell ⟨w.heap.size, 0, none⟩ (.string x)).setCell ⟨w.heap.size, 1, none⟩ (.string y)).setCell ⟨w.heap.size, 2, none⟩ (.int .i64 ((k1 : Int) + 2))).setCell ⟨w.heap.size, 3, none⟩ (.int .i64 j)).drew.cell? ⟨A, 0, none⟩ = some (.string x) ∧ ((((w9.setCell ⟨w.heap.size, 0, none⟩ (.string x)).setCell ⟨w.heap.size, 1, none⟩ (.string y)).setCell ⟨w.heap.size, 2, none⟩ (.int .i64 ((k1 : Int) + 2))).setCell ⟨w.heap.size, 3, none⟩ (.int .i64 j)).drew.cell? ⟨A, 1, none⟩ = some (.string y) ∧ ((((w9.setCell ⟨w.heap.size, 0, none⟩ (.string x)).setCell ⟨w.heap.size, 1, none⟩ (.string y)).setCell ⟨w.heap.size, 2, none⟩ (.int .i64 ((k1 : Int) + 2))).setCell ⟨w.heap.size, 3, none⟩ (.int .i64 j)).drew.cell? ⟨A, 2, none⟩ = some (.int .i64 ((k1 : Int) + 2)) ∧ ((((w9.setCell ⟨w.heap.size, 0, none⟩ (.string x)).setCell ⟨w.heap.size, 1, none⟩ (.string y)).setCell ⟨w.heap.size, 2, none⟩ (.int .i64 ((k1 : Int) + 2))).setCell ⟨w.heap.size, 3, none⟩ (.int .i64 j)).drew.cell? ⟨A, 3, none⟩ = some (.int .i64 j) := ⟨(Blk.far (Blk.far (Blk.far (Blk.far HM9.out.a (p := ⟨w.heap.size, 0, none⟩) (Nat.ne_of_gt HM9.out.lA) (.string x)) (p := ⟨w.heap.size, 1, none⟩) (Nat.ne_of_gt HM9.out.lA) (.string y)) (p := ⟨w.heap.size, 2, none⟩) (Nat.ne_of_gt HM9.out.lA) (.int .i64 ((k1 : Int) + 2))) (p := ⟨w.heap.size, 3, none⟩) (Nat.ne_of_gt HM9.out.lA) (.int .i64 j)).cell 0, (Blk.far (Blk.far (Blk.far (Blk.far HM9.out.a (p := ⟨w.heap.size, 0, none⟩) (Nat.ne_of_gt HM9.out.lA) (.string x)) (p := ⟨w.heap.size, 1, none⟩) (Nat.ne_of_gt HM9.out.lA) (.string y)) (p := ⟨w.heap.size, 2, none⟩) (Nat.ne_of_gt HM9.out.lA) (.int .i64 ((k1 : Int) + 2))) (p := ⟨w.heap.size, 3, none⟩) (Nat.ne_of_gt HM9.out.lA) (.int .i64 j)).cell 1, (Blk.far (Blk.far (Blk.far (Blk.far HM9.out.a (p := ⟨w.heap.size, 0, none⟩) (Nat.ne_of_gt HM9.out.lA) (.string x)) (p := ⟨w.heap.size, 1, none⟩) (Nat.ne_of_gt HM9.out.lA) (.string y)) (p := ⟨w.heap.size, 2, none⟩) (Nat.ne_of_gt HM9.out.lA) (.int .i64 ((k1 : Int) + 2))) (p := ⟨w.heap.size, 3, none⟩) (Nat.ne_of_gt HM9.out.lA) (.int .i64 j)).cell 2, (Blk.far (Blk.far (Blk.far (Blk.far HM9.out.a (p := ⟨w.heap.size, 0, none⟩) (Nat.ne_of_gt HM9.out.lA) (.string x)) (p := ⟨w.heap.size, 1, none⟩) (Nat.ne_of_gt HM9.out.lA) (.string y)) (p := ⟨w.heap.size, 2, none⟩) (Nat.ne_of_gt HM9.out.lA) (.int .i64 ((k1 : Int) + 2))) (p := ⟨w.heap.size, 3, none⟩) (Nat.ne_of_gt HM9.out.lA) (.int .i64 j)).cell 3⟩
        have r0 : w9.drew.cell? ⟨w.heap.size, 0, none⟩ = some (.string ⟨#[]⟩) := hM10.t.cell 0
        have f0 : w9.drew.frozen? ⟨w.heap.size, 0, none⟩ = false := hM10.t.frozen 0
        have r1 : w9.drew.cell? ⟨w.heap.size, 1, none⟩ = some (.string ⟨#[]⟩) := hM10.t.cell 1
        have f1 : w9.drew.frozen? ⟨w.heap.size, 1, none⟩ = false := hM10.t.frozen 1
        have r2 : w9.drew.cell? ⟨w.heap.size, 2, none⟩ = some (.int .i64 0) := hM10.t.cell 2
        have f2 : w9.drew.frozen? ⟨w.heap.size, 2, none⟩ = false := hM10.t.frozen 2
        have r3 : w9.drew.cell? ⟨w.heap.size, 3, none⟩ = some (.int .i64 0) := hM10.t.cell 3
        have f3 : w9.drew.frozen? ⟨w.heap.size, 3, none⟩ = false := hM10.t.frozen 3
        have p0 : w9.cell? ⟨w.heap.size, 0, none⟩ = some (.string ⟨#[]⟩) := HM9.out.t.cell 0
        have e0 : w9.frozen? ⟨w.heap.size, 0, none⟩ = false := HM9.out.t.frozen 0
        have p1 : w9.cell? ⟨w.heap.size, 1, none⟩ = some (.string ⟨#[]⟩) := HM9.out.t.cell 1
        have e1 : w9.frozen? ⟨w.heap.size, 1, none⟩ = false := HM9.out.t.frozen 1
        have p2 : w9.cell? ⟨w.heap.size, 2, none⟩ = some (.int .i64 0) := HM9.out.t.cell 2
        have e2 : w9.frozen? ⟨w.heap.size, 2, none⟩ = false := HM9.out.t.frozen 2
        have p3 : w9.cell? ⟨w.heap.size, 3, none⟩ = some (.int .i64 0) := HM9.out.t.cell 3
        have e3 : w9.frozen? ⟨w.heap.size, 3, none⟩ = false := HM9.out.t.frozen 3
        go_wp2_with fail
        refine wp_region_held_drew (S := (fun w' => w'.cell? ⟨A, 0, none⟩ = some (.string x) ∧ w'.cell? ⟨A, 1, none⟩ = some (.string y) ∧ w'.cell? ⟨A, 2, none⟩ = some (.int .i64 ((k1 : Int) + 2)) ∧ w'.cell? ⟨A, 3, none⟩ = some (.int .i64 j))) (by kernel_rfl) (by exact K1) (fun hHeld => ?_)
        refine wpAnyH_take (i := 0) (v := ?_) rfl (by kernel_rfl) (by kernel_rfl) (by kernel_rfl) (fun _ _ _ h => h) (Or.inl ⟨by rfl, ?_⟩) (by assumption) ?_
        rotate_left
        · intro w hSw
          go_simp
          try rfl
        simp only [Act.put, List.setIfInBounds_toArray, List.set_cons_zero, List.set_cons_succ, List.getElem_toArray, List.getElem_cons_succ, List.getElem_cons_zero]
        refine wpAnyH_take (i := 1) (v := ?_) rfl (by kernel_rfl) (by kernel_rfl) (by kernel_rfl) (fun _ _ _ h => h) (Or.inl ⟨by rfl, ?_⟩) (by assumption) ?_
        rotate_left
        · intro w hSw
          go_simp
          try rfl
        simp only [Act.put, List.setIfInBounds_toArray, List.set_cons_zero, List.set_cons_succ, List.getElem_toArray, List.getElem_cons_succ, List.getElem_cons_zero]
        refine wpAnyH_take (i := 2) (v := ?_) rfl (by kernel_rfl) (by kernel_rfl) (by kernel_rfl) (fun _ _ _ h => h) (Or.inl ⟨by rfl, ?_⟩) (by assumption) ?_
        rotate_left
        · intro w hSw
          go_simp
          try rfl
        simp only [Act.put, List.setIfInBounds_toArray, List.set_cons_zero, List.set_cons_succ, List.getElem_toArray, List.getElem_cons_succ, List.getElem_cons_zero]
        refine wpAnyH_take (i := 3) (v := undef) rfl (by kernel_rfl) (by kernel_rfl) (by kernel_rfl) (fun _ _ _ h => h) (Or.inr ⟨by rfl, rfl⟩) (by assumption) ?_
        simp only [Act.put, List.setIfInBounds_toArray, List.set_cons_zero, List.set_cons_succ, List.getElem_toArray, List.getElem_cons_succ, List.getElem_cons_zero]
        refine wpAnyH_take (i := 4) (v := undef) rfl (by kernel_rfl) (by kernel_rfl) (by kernel_rfl) (fun _ _ _ h => h) (Or.inr ⟨by rfl, rfl⟩) (by assumption) ?_
        simp only [Act.put, List.setIfInBounds_toArray, List.set_cons_zero, List.set_cons_succ, List.getElem_toArray, List.getElem_cons_succ, List.getElem_cons_zero]
        refine wpAnyH_take (i := 5) (v := undef) rfl (by kernel_rfl) (by kernel_rfl) (by kernel_rfl) (fun _ _ _ h => h) (Or.inr ⟨by rfl, rfl⟩) (by assumption) ?_
        simp only [Act.put, List.setIfInBounds_toArray, List.set_cons_zero, List.set_cons_succ, List.getElem_toArray, List.getElem_cons_succ, List.getElem_cons_zero]
        refine wpAnyH_take (i := 6) (v := undef) rfl (by kernel_rfl) (by kernel_rfl) (by kernel_rfl) (fun _ _ _ h => h) (Or.inr ⟨by rfl, rfl⟩) (by assumption) ?_
        simp only [Act.put, List.setIfInBounds_toArray, List.set_cons_zero, List.set_cons_succ, List.getElem_toArray, List.getElem_cons_succ, List.getElem_cons_zero]
        refine wpAnyH_take (i := 7) (v := ?_) rfl (by kernel_rfl) (by kernel_rfl) (by kernel_rfl) (fun _ _ _ h => h) (Or.inl ⟨by rfl, ?_⟩) (by assumption) ?_
        rotate_left
        · intro w hSw
          go_simp
          try rfl
        simp only [Act.put, List.setIfInBounds_toArray, List.set_cons_zero, List.set_cons_succ, List.getElem_toArray, List.getElem_cons_succ, List.getElem_cons_zero]
        refine wpAnyH_ready (rs := [8]) (by kernel_rfl) (by simp) ?_
        refine AllReadyH.cons rfl (fun K9 hK => ?_) AllReadyH.nil
        go_simp

        try go_wp2_with fail
        refine hK.out _ _ (by exact K3) (fun hHeld => ?_)
        clear hK K9
        try simp only [Act.put, List.setIfInBounds_toArray, List.set_cons_zero, List.set_cons_succ, List.getElem_toArray, List.getElem_cons_succ, List.getElem_cons_zero]
        refine wpAnyH_take (i := 9) (v := ?_) rfl (by kernel_rfl) (by kernel_rfl) (by kernel_rfl) (fun _ _ _ h => h) (Or.inl ⟨by rfl, ?_⟩) (by assumption) ?_
        rotate_left
        · intro w hSw
          go_simp
          try rfl
        simp only [Act.put, List.setIfInBounds_toArray, List.set_cons_zero, List.set_cons_succ, List.getElem_toArray, List.getElem_cons_succ, List.getElem_cons_zero]
        refine wpAnyH_done (by kernel_rfl) ?_ _
        clear hHeld
        go_wp2_with fail
        have hT9 := HM9.out.t
        have hO9 := HM9.out.o
        have hF := (((hT9.set_ 0 (.string x)).set_ 1 (.string y)).set_ 2 (.int .i64 ((k1 : Int) + 2))).set_ 3 (.int .i64 j)
        have s0 : (World.setCell _ _ _).cell? _ = some (.string x) := hF.cell 0
        have s1 : (World.setCell _ _ _).cell? _ = some (.string y) := hF.cell 1
        have s2 : (World.setCell _ _ _).cell? _ = some (.int .i64 ((k1 : Int) + 2)) := hF.cell 2
        have s3 : (World.setCell _ _ _).cell? _ = some (.int .i64 j) := hF.cell 3
        exact bodyPost_ret (v := .tuple #[.agg #[.string x, .string y, .int .i64 ((k1 : Int) + 2), .int .i64 j], .bool false]) (by simp [results, Try.f52, go_sem, s0, s1, s2, s3]) rfl ⟨by rw [HV.out]; exact ⟨_, _, _, _, rfl⟩, ((((hO9.far (p := ⟨w.heap.size, 0, none⟩) (Nat.le_refl _) _).far (p := ⟨w.heap.size, 1, none⟩) (Nat.le_refl _) _).far (p := ⟨w.heap.size, 2, none⟩) (Nat.le_refl _) _).far (p := ⟨w.heap.size, 3, none⟩) (Nat.le_refl _) _).drew⟩
      | some vm =>
        obtain ⟨v, m⟩ := vm
        rw [hsj] at HSY HAJ2
        dsimp only at HAJ2
        have hjl : k1 + 2 + m ≤ s.size := by
          have h := sayJ_bd 34 60 _ _ (Nat.le_refl _) v m hsj
          rw [List.length_drop, ← HL.out] at h
          omega
        obtain ⟨y, hy⟩ : ∃ y, strOf v = y := ⟨_, rfl⟩
        obtain ⟨j, hj⟩ : ∃ j, k1 + 2 + m = j := ⟨_, rfl⟩
        have HSY2 : Hid (∀ w, Rdr w g s (k1 + 2) → Calls Try.prog 38 #[.pointer (some ⟨g, 0, none⟩), .int .u8 34, .int .u8 60] w fun x w' => (x = .returned (.tuple #[.string y, .bool true]) ∧ Rdr w' g s j) ∧ Only g w w') := by rw [← hy, ← hj]; exact HSY.out
        have HY := Lib.hid hy
        have HJ := Lib.hid hj
        rw [hj] at HAJ2 hjl
        clear hsj HSY hy hj
        go_wp2_with fail
        refine (HSY2.out _ HM6.out.r).mono ?_
        rintro e w7 ⟨⟨rfl, hR7⟩, hO7⟩
        have HM7 := Lib.hid (HM6.out.only hO7 hR7)
        clear hR7 hO7 HM6 HSY2
        have hM7 := HM7.out
        have q1 : w7.drew.cell? ⟨A, 1, none⟩ = some (.string ⟨#[]⟩) := hM7.a.cell 1
        have u1 : w7.drew.frozen? ⟨A, 1, none⟩ = false := hM7.a.frozen 1
        have q1' : w7.cell? ⟨A, 1, none⟩ = some (.string ⟨#[]⟩) := hM7.a.cell 1
        have u1' : w7.frozen? ⟨A, 1, none⟩ = false := hM7.a.frozen 1
        have q3 : w7.drew.cell? ⟨A, 3, none⟩ = some (.int .i64 0) := hM7.a.cell 3
        have u3 : w7.drew.frozen? ⟨A, 3, none⟩ = false := hM7.a.frozen 3
        have q3' : w7.cell? ⟨A, 3, none⟩ = some (.int .i64 0) := hM7.a.cell 3
        have u3' : w7.frozen? ⟨A, 3, none⟩ = false := hM7.a.frozen 3
        have HM8 : Hid (AM w g A s j #[.string x, .string y, .int .i64 ((k1 : Int) + 2), .int .i64 j] ((w7.setCell ⟨A, 1, none⟩ (.string y)).setCell ⟨A, 3, none⟩ (.int .i64 j))) := (hM7.put 1 (.string y)).put 3 (.int .i64 j)
        have K1 : w7.drew.cell? ⟨g, 0, none⟩ = some (.string s) ∧ w7.drew.cell? ⟨g, 1, none⟩ = some (.int .i64 j) := hM7.r.both
        have K2 : (w7.setCell ⟨A, 1, none⟩ (.string y)).drew.cell? ⟨g, 0, none⟩ = some (.string s) ∧ (w7.setCell ⟨A, 1, none⟩ (.string y)).drew.cell? ⟨g, 1, none⟩ = some (.int .i64 j) := (hM7.put 1 (.string y)).r.both
        have K3 : ((w7.setCell ⟨A, 1, none⟩ (.string y)).setCell ⟨A, 3, none⟩ (.int .i64 j)).drew.cell? ⟨g, 0, none⟩ = some (.string s) ∧ ((w7.setCell ⟨A, 1, none⟩ (.string y)).setCell ⟨A, 3, none⟩ (.int .i64 j)).drew.cell? ⟨g, 1, none⟩ = some (.int .i64 j) := HM8.out.r.both
        go_wp2_with fail
        go_region_held3 (fun w' => w'.cell? ⟨g, 0, none⟩ = some (.string s) ∧ w'.cell? ⟨g, 1, none⟩ = some (.int .i64 j)) (first | (with_reducible exact K1) | (with_reducible exact K2) | (with_reducible exact K3)) (fail)
        have HM9 := Lib.hid HM8.out.drew
        clear HM8 K1 K2 K3 hM7 q1 u1 q1' u1' q3 u3 q3' u3'
        generalize ((w7.setCell ⟨A, 1, none⟩ (.string y)).setCell ⟨A, 3, none⟩ (.int .i64 j)).drew = w9 at *
        clear HM7
        have K1 : w9.drew.cell? ⟨A, 0, none⟩ = some (.string x) ∧ w9.drew.cell? ⟨A, 1, none⟩ = some (.string y) ∧ w9.drew.cell? ⟨A, 2, none⟩ = some (.int .i64 ((k1 : Int) + 2)) ∧ w9.drew.cell? ⟨A, 3, none⟩ = some (.int .i64 j) := ⟨HM9.out.a.cell 0, HM9.out.a.cell 1, HM9.out.a.cell 2, HM9.out.a.cell 3⟩
        have ha := atS_one s.data.toList 34 j (by decide)
        by_cases h34 : bt s.data.toList j = 34
        · have HV : Hid (attJ s.data.toList k = some (⟨N, v, k1 + 2, j⟩, j + 1)) := by show _ = _; rw [HAJ2.out, if_pos h34]
          have HTQ : Hid (∀ w, Rdr w g s j → Calls Try.prog 33 #[.pointer (some ⟨g, 0, none⟩), .string ⟨#[34]⟩] w fun e w' => e = .returned (.bool true) ∧ Rdr w' g s (j + 1) ∧ Only g w w') := fun w hR => ttake g j s ⟨#[34]⟩ w hR hjl hs (by decide) true (ha.trans (decide_eq_true h34))
          clear ha h34 HAJ2
          go_wp2_with fail
          go_region_held3 (fun w' => w'.cell? ⟨A, 0, none⟩ = some (.string x) ∧ w'.cell? ⟨A, 1, none⟩ = some (.string y) ∧ w'.cell? ⟨A, 2, none⟩ = some (.int .i64 ((k1 : Int) + 2)) ∧ w'.cell? ⟨A, 3, none⟩ = some (.int .i64 j)) (first | (with_reducible exact K1) | (with_reducible exact K2) | (with_reducible exact K3)) ((go_at_call 33; refine (HTQ.out _ HM9.out.drew.r).mono ?_; rintro e w10 ⟨rfl, hR10, hO10⟩; have hM10 := HM9.out.drew.only hO10 hR10; have K2 : w10.cell? ⟨A, 0, none⟩ = some (.string x) ∧ w10.cell? ⟨A, 1, none⟩ = some (.string y) ∧ w10.cell? ⟨A, 2, none⟩ = some (.int .i64 ((k1 : Int) + 2)) ∧ w10.cell? ⟨A, 3, none⟩ = some (.int .i64 j) := ⟨hM10.a.cell 0, hM10.a.cell 1, hM10.a.cell 2, hM10.a.cell 3⟩; have K3 : ((((w10.setCell ⟨w.heap.size, 0, none⟩ (.string x)).setCell ⟨w.heap.size, 1, none⟩ (.string y)).setCell ⟨w.heap.size, 2, none⟩ (.int .i64 ((k1 : Int) + 2))).setCell ⟨w.heap.size, 3, none⟩ (.int .i64 j)).cell? ⟨A, 0, none⟩ = some (.string x) ∧ ((((w10.setCell ⟨w.heap.size, 0, none⟩ (.string x)).setCell ⟨w.heap.size, 1, none⟩ (.string y)).setCell ⟨w.heap.size, 2, none⟩ (.int .i64 ((k1 : Int) + 2))).setCell ⟨w.heap.size, 3, none⟩ (.int .i64 j)).cell? ⟨A, 1, none⟩ = some (.string y) ∧ ((((w10.setCell ⟨w.heap.size, 0, none⟩ (.string x)).setCell ⟨w.heap.size, 1, none⟩ (.string y)).setCell ⟨w.heap.size, 2, none⟩ (.int .i64 ((k1 : Int) + 2))).setCell ⟨w.heap.size, 3, none⟩ (.int .i64 j)).cell? ⟨A, 2, none⟩ = some (.int .i64 ((k1 : Int) + 2)) ∧ ((((w10.setCell ⟨w.heap.size, 0, none⟩ (.string x)).setCell ⟨w.heap.size, 1, none⟩ (.string y)).setCell ⟨w.heap.size, 2, none⟩ (.int .i64 ((k1 : Int) + 2))).setCell ⟨w.heap.size, 3, none⟩ (.int .i64 j)).cell? ⟨A, 3, none⟩ = some (.int .i64 j) := ⟨(Blk.far (Blk.far (Blk.far (Blk.far hM10.a (p := ⟨w.heap.size, 0, none⟩) (Nat.ne_of_gt hM10.lA) (.string x)) (p := ⟨w.heap.size, 1, none⟩) (Nat.ne_of_gt hM10.lA) (.string y)) (p := ⟨w.heap.size, 2, none⟩) (Nat.ne_of_gt hM10.lA) (.int .i64 ((k1 : Int) + 2))) (p := ⟨w.heap.size, 3, none⟩) (Nat.ne_of_gt hM10.lA) (.int .i64 j)).cell 0, (Blk.far (Blk.far (Blk.far (Blk.far hM10.a (p := ⟨w.heap.size, 0, none⟩) (Nat.ne_of_gt hM10.lA) (.string x)) (p := ⟨w.heap.size, 1, none⟩) (Nat.ne_of_gt hM10.lA) (.string y)) (p := ⟨w.heap.size, 2, none⟩) (Nat.ne_of_gt hM10.lA) (.int .i64 ((k1 : Int) + 2))) (p := ⟨w.heap.size, 3, none⟩) (Nat.ne_of_gt hM10.lA) (.int .i64 j)).cell 1, (Blk.far (Blk.far (Blk.far (Blk.far hM10.a (p := ⟨w.heap.size, 0, none⟩) (Nat.ne_of_gt hM10.lA) (.string x)) (p := ⟨w.heap.size, 1, none⟩) (Nat.ne_of_gt hM10.lA) (.string y)) (p := ⟨w.heap.size, 2, none⟩) (Nat.ne_of_gt hM10.lA) (.int .i64 ((k1 : Int) + 2))) (p := ⟨w.heap.size, 3, none⟩) (Nat.ne_of_gt hM10.lA) (.int .i64 j)).cell 2, (Blk.far (Blk.far (Blk.far (Blk.far hM10.a (p := ⟨w.heap.size, 0, none⟩) (Nat.ne_of_gt hM10.lA) (.string x)) (p := ⟨w.heap.size, 1, none⟩) (Nat.ne_of_gt hM10.lA) (.string y)) (p := ⟨w.heap.size, 2, none⟩) (Nat.ne_of_gt hM10.lA) (.int .i64 ((k1 : Int) + 2))) (p := ⟨w.heap.size, 3, none⟩) (Nat.ne_of_gt hM10.lA) (.int .i64 j)).cell 3⟩; have r0 : w10.cell? ⟨w.heap.size, 0, none⟩ = some (.string ⟨#[]⟩) := hM10.t.cell 0; have f0 : w10.frozen? ⟨w.heap.size, 0, none⟩ = false := hM10.t.frozen 0; have r1 : w10.cell? ⟨w.heap.size, 1, none⟩ = some (.string ⟨#[]⟩) := hM10.t.cell 1; have f1 : w10.frozen? ⟨w.heap.size, 1, none⟩ = false := hM10.t.frozen 1; have r2 : w10.cell? ⟨w.heap.size, 2, none⟩ = some (.int .i64 0) := hM10.t.cell 2; have f2 : w10.frozen? ⟨w.heap.size, 2, none⟩ = false := hM10.t.frozen 2; have r3 : w10.cell? ⟨w.heap.size, 3, none⟩ = some (.int .i64 0) := hM10.t.cell 3; have f3 : w10.frozen? ⟨w.heap.size, 3, none⟩ = false := hM10.t.frozen 3; skip))
          go_wp2_with fail
          have hT9 := hM10.t
          have hO9 := hM10.o
          have hF := (((hT9.set_ 0 (.string x)).set_ 1 (.string y)).set_ 2 (.int .i64 ((k1 : Int) + 2))).set_ 3 (.int .i64 j)
          have s0 : (World.setCell _ _ _).cell? _ = some (.string x) := hF.cell 0
          have s1 : (World.setCell _ _ _).cell? _ = some (.string y) := hF.cell 1
          have s2 : (World.setCell _ _ _).cell? _ = some (.int .i64 ((k1 : Int) + 2)) := hF.cell 2
          have s3 : (World.setCell _ _ _).cell? _ = some (.int .i64 j) := hF.cell 3
          exact bodyPost_ret (v := .tuple #[.agg #[.string x, .string y, .int .i64 ((k1 : Int) + 2), .int .i64 j], .bool true]) (by simp [results, Try.f52, go_sem, s0, s1, s2, s3]) rfl ⟨by rw [HV.out]; exact ⟨by show _ = Ending.returned (.tuple #[.agg #[.string (strOf N), .string (strOf v), .int .i64 ((k1 + 2 : Nat) : Int), .int .i64 (j : Int)], .bool true]); rw [HX.out, HY.out]; rfl, (((hR10.far (p := ⟨w.heap.size, 0, none⟩) (Nat.ne_of_lt hgl) _).far (p := ⟨w.heap.size, 1, none⟩) (Nat.ne_of_lt hgl) _).far (p := ⟨w.heap.size, 2, none⟩) (Nat.ne_of_lt hgl) _).far (p := ⟨w.heap.size, 3, none⟩) (Nat.ne_of_lt hgl) _⟩, (((hO9.far (p := ⟨w.heap.size, 0, none⟩) (Nat.le_refl _) _).far (p := ⟨w.heap.size, 1, none⟩) (Nat.le_refl _) _).far (p := ⟨w.heap.size, 2, none⟩) (Nat.le_refl _) _).far (p := ⟨w.heap.size, 3, none⟩) (Nat.le_refl _) _⟩
        · have HV : Hid (attJ s.data.toList k = none) := by show _ = _; rw [HAJ2.out, if_neg h34]
          have HTQ : Hid (∀ w, Rdr w g s j → Calls Try.prog 33 #[.pointer (some ⟨g, 0, none⟩), .string ⟨#[34]⟩] w fun e w' => e = .returned (.bool false) ∧ Rdr w' g s j ∧ Only g w w') := fun w hR => ttake g j s ⟨#[34]⟩ w hR hjl hs (by decide) false (ha.trans (decide_eq_false h34))
          clear ha h34 HAJ2
          go_wp2_with fail
          go_region_held3 (fun w' => w'.cell? ⟨A, 0, none⟩ = some (.string x) ∧ w'.cell? ⟨A, 1, none⟩ = some (.string y) ∧ w'.cell? ⟨A, 2, none⟩ = some (.int .i64 ((k1 : Int) + 2)) ∧ w'.cell? ⟨A, 3, none⟩ = some (.int .i64 j)) (first | (with_reducible exact K1) | (with_reducible exact K2) | (with_reducible exact K3)) ((go_at_call 33; refine (HTQ.out _ HM9.out.drew.r).mono ?_; rintro e w10 ⟨rfl, hR10, hO10⟩; have hM10 := HM9.out.drew.only hO10 hR10; have K2 : w10.cell? ⟨A, 0, none⟩ = some (.string x) ∧ w10.cell? ⟨A, 1, none⟩ = some (.string y) ∧ w10.cell? ⟨A, 2, none⟩ = some (.int .i64 ((k1 : Int) + 2)) ∧ w10.cell? ⟨A, 3, none⟩ = some (.int .i64 j) := ⟨hM10.a.cell 0, hM10.a.cell 1, hM10.a.cell 2, hM10.a.cell 3⟩; have K3 : ((((w10.setCell ⟨w.heap.size, 0, none⟩ (.string x)).setCell ⟨w.heap.size, 1, none⟩ (.string y)).setCell ⟨w.heap.size, 2, none⟩ (.int .i64 ((k1 : Int) + 2))).setCell ⟨w.heap.size, 3, none⟩ (.int .i64 j)).cell? ⟨A, 0, none⟩ = some (.string x) ∧ ((((w10.setCell ⟨w.heap.size, 0, none⟩ (.string x)).setCell ⟨w.heap.size, 1, none⟩ (.string y)).setCell ⟨w.heap.size, 2, none⟩ (.int .i64 ((k1 : Int) + 2))).setCell ⟨w.heap.size, 3, none⟩ (.int .i64 j)).cell? ⟨A, 1, none⟩ = some (.string y) ∧ ((((w10.setCell ⟨w.heap.size, 0, none⟩ (.string x)).setCell ⟨w.heap.size, 1, none⟩ (.string y)).setCell ⟨w.heap.size, 2, none⟩ (.int .i64 ((k1 : Int) + 2))).setCell ⟨w.heap.size, 3, none⟩ (.int .i64 j)).cell? ⟨A, 2, none⟩ = some (.int .i64 ((k1 : Int) + 2)) ∧ ((((w10.setCell ⟨w.heap.size, 0, none⟩ (.string x)).setCell ⟨w.heap.size, 1, none⟩ (.string y)).setCell ⟨w.heap.size, 2, none⟩ (.int .i64 ((k1 : Int) + 2))).setCell ⟨w.heap.size, 3, none⟩ (.int .i64 j)).cell? ⟨A, 3, none⟩ = some (.int .i64 j) := ⟨(Blk.far (Blk.far (Blk.far (Blk.far hM10.a (p := ⟨w.heap.size, 0, none⟩) (Nat.ne_of_gt hM10.lA) (.string x)) (p := ⟨w.heap.size, 1, none⟩) (Nat.ne_of_gt hM10.lA) (.string y)) (p := ⟨w.heap.size, 2, none⟩) (Nat.ne_of_gt hM10.lA) (.int .i64 ((k1 : Int) + 2))) (p := ⟨w.heap.size, 3, none⟩) (Nat.ne_of_gt hM10.lA) (.int .i64 j)).cell 0, (Blk.far (Blk.far (Blk.far (Blk.far hM10.a (p := ⟨w.heap.size, 0, none⟩) (Nat.ne_of_gt hM10.lA) (.string x)) (p := ⟨w.heap.size, 1, none⟩) (Nat.ne_of_gt hM10.lA) (.string y)) (p := ⟨w.heap.size, 2, none⟩) (Nat.ne_of_gt hM10.lA) (.int .i64 ((k1 : Int) + 2))) (p := ⟨w.heap.size, 3, none⟩) (Nat.ne_of_gt hM10.lA) (.int .i64 j)).cell 1, (Blk.far (Blk.far (Blk.far (Blk.far hM10.a (p := ⟨w.heap.size, 0, none⟩) (Nat.ne_of_gt hM10.lA) (.string x)) (p := ⟨w.heap.size, 1, none⟩) (Nat.ne_of_gt hM10.lA) (.string y)) (p := ⟨w.heap.size, 2, none⟩) (Nat.ne_of_gt hM10.lA) (.int .i64 ((k1 : Int) + 2))) (p := ⟨w.heap.size, 3, none⟩) (Nat.ne_of_gt hM10.lA) (.int .i64 j)).cell 2, (Blk.far (Blk.far (Blk.far (Blk.far hM10.a (p := ⟨w.heap.size, 0, none⟩) (Nat.ne_of_gt hM10.lA) (.string x)) (p := ⟨w.heap.size, 1, none⟩) (Nat.ne_of_gt hM10.lA) (.string y)) (p := ⟨w.heap.size, 2, none⟩) (Nat.ne_of_gt hM10.lA) (.int .i64 ((k1 : Int) + 2))) (p := ⟨w.heap.size, 3, none⟩) (Nat.ne_of_gt hM10.lA) (.int .i64 j)).cell 3⟩; have r0 : w10.cell? ⟨w.heap.size, 0, none⟩ = some (.string ⟨#[]⟩) := hM10.t.cell 0; have f0 : w10.frozen? ⟨w.heap.size, 0, none⟩ = false := hM10.t.frozen 0; have r1 : w10.cell? ⟨w.heap.size, 1, none⟩ = some (.string ⟨#[]⟩) := hM10.t.cell 1; have f1 : w10.frozen? ⟨w.heap.size, 1, none⟩ = false := hM10.t.frozen 1; have r2 : w10.cell? ⟨w.heap.size, 2, none⟩ = some (.int .i64 0) := hM10.t.cell 2; have f2 : w10.frozen? ⟨w.heap.size, 2, none⟩ = false := hM10.t.frozen 2; have r3 : w10.cell? ⟨w.heap.size, 3, none⟩ = some (.int .i64 0) := hM10.t.cell 3; have f3 : w10.frozen? ⟨w.heap.size, 3, none⟩ = false := hM10.t.frozen 3; skip))
          go_wp2_with fail
          have hT9 := hM10.t
          have hO9 := hM10.o
          have hF := (((hT9.set_ 0 (.string x)).set_ 1 (.string y)).set_ 2 (.int .i64 ((k1 : Int) + 2))).set_ 3 (.int .i64 j)
          have s0 : (World.setCell _ _ _).cell? _ = some (.string x) := hF.cell 0
          have s1 : (World.setCell _ _ _).cell? _ = some (.string y) := hF.cell 1
          have s2 : (World.setCell _ _ _).cell? _ = some (.int .i64 ((k1 : Int) + 2)) := hF.cell 2
          have s3 : (World.setCell _ _ _).cell? _ = some (.int .i64 j) := hF.cell 3
          exact bodyPost_ret (v := .tuple #[.agg #[.string x, .string y, .int .i64 ((k1 : Int) + 2), .int .i64 j], .bool false]) (by simp [results, Try.f52, go_sem, s0, s1, s2, s3]) rfl ⟨by rw [HV.out]; exact ⟨_, _, _, _, rfl⟩, (((hO9.far (p := ⟨w.heap.size, 0, none⟩) (Nat.le_refl _) _).far (p := ⟨w.heap.size, 1, none⟩) (Nat.le_refl _) _).far (p := ⟨w.heap.size, 2, none⟩) (Nat.le_refl _) _).far (p := ⟨w.heap.size, 3, none⟩) (Nat.le_refl _) _⟩
end Go.Proofs.Ytlogjghbdnaedaa
