/- Walks: the document's opening (chapter 11). -/
import Derived.Test.YtlogjghbdnaedaaTgI
import Derived.Test.YtlogjghbdnaedaaTgT
import Derived.Test.YtlogjghbdnaedaaTgU
import Derived.Test.YtlogjghbdnaedaaTgSr
import Derived.Deep.AppendLies
namespace Go.Proofs.Ytlogjghbdnaedaa
open Go.RowKit
set_option linter.unusedVariables false
set_option linter.unusedSimpArgs false
theorem blk_names {w W : World} {g : Nat} {zs : List ByteArray} (h : Blk w g 9 (zs.map Value.string).toArray) (hb : Below w.heap.size w W) : ∀ j, j < zs.length → W.cell? ⟨g, j, none⟩ = some (.string (zs.getD j ByteArray.empty)) := by
  intro j hj
  rw [(h.below hb h.lt).cell j]
  simp [List.getD_eq_getElem?_getD, List.getElem?_eq_getElem hj]
/-- The elements' names, made anew, and what is found among them. -/
theorem rnamed (w : World) :
    Calls Try.prog 44 #[] w fun e w' => e = .returned (.slice (some ⟨w.heap.size, 0, none⟩) 26 26) ∧ Below w.heap.size w w' ∧ ∀ (x : ByteArray) (W : World), Below w'.heap.size w' W → Calls Try.prog 43 #[.slice (some ⟨w.heap.size, 0, none⟩) 26 26, .string x] W fun e W' => e = .returned (.bool (isElem x.data.toList)) ∧ W = W' := by
  refine (rnames w).mono ?_
  rintro e w' ⟨he, rfl⟩
  refine ⟨he, (Below.refl _ _).alloc (Nat.le_refl _) _, fun x W hW => ?_⟩
  exact rin elemZ w.heap.size 26 26 x W rfl (by decide) (blk_names (Blk.new w 9 (elemZ.map Value.string).toArray) hW)
theorem rattrd (w : World) :
    Calls Try.prog 61 #[] w fun e w' => e = .returned (.slice (some ⟨w.heap.size, 0, none⟩) 9 9) ∧ Below w.heap.size w w' ∧ ∀ (x : ByteArray) (W : World), Below w'.heap.size w' W → Calls Try.prog 43 #[.slice (some ⟨w.heap.size, 0, none⟩) 9 9, .string x] W fun e W' => e = .returned (.bool (isAttr x.data.toList)) ∧ W = W' := by
  refine (rattrs w).mono ?_
  rintro e w' ⟨he, rfl⟩
  refine ⟨he, (Below.refl _ _).alloc (Nat.le_refl _) _, fun x W hW => ?_⟩
  exact rin attrZ w.heap.size 9 9 x W rfl (by decide) (blk_names (Blk.new w 9 (attrZ.map Value.string).toArray) hW)
theorem owns_far {w : World} {n : Nat} {e : TypeId} {size N : Nat} {v : Value} {xs : List Value} (h : w.ownsRow n e size v N xs) {p : Addr} (hp : v.ownBlock ≠ some p.block) (u : Value) : (w.setCell p u).ownsRow n e size v N xs := by
  refine ⟨h.1, ?_⟩
  rcases h.2 with h | ⟨q, cap, cur, hv, hq, hh, r⟩
  · exact .inl h
  · refine .inr ⟨q, cap, cur, hv, hq, (Below.heap_setCell w p u q (fun e => hp ?_)).trans hh, r⟩
    rw [hv, ← e]; rfl
/-- What the document's opening says. -/
def ROpn (o : Option (List Att × Nat)) (x : ByteArray) (fr : Int) (B : Nat) (e : Ending) (w : World) : Prop := match o with
  | some (bs, t) => ∃ av cs, e = .returned (.tuple #[.agg #[.int .u8 111, .string x, .string ⟨#[]⟩, av, .int .i64 fr, .int .i64 t], .bool true]) ∧ RowG w (fun b => B ≤ b) av bs.length cs ∧ AttsC true bs cs
  | none => ∃ (q : Int) (n t : ByteArray) (o : Option Addr) (m c : Nat) (f u : Int), e = .returned (.tuple #[.agg #[.int .u8 q, .string n, .string t, .slice o m c, .int .i64 f, .int .i64 u], .bool false])
/-- While an opening is read. -/
structure OR (w : World) (T : Nat) (x : ByteArray) (fr : Int) (v : Value) (az : List Att) (cs : List Value) (wr : World) : Prop where
  lT : w.heap.size < T
  t : Blk wr w.heap.size 34 #[.int .u8 0, .string ⟨#[]⟩, .string ⟨#[]⟩, .slice none 0 0, .int .i64 0, .int .i64 0]
  k : Blk wr T 34 #[.int .u8 111, .string x, .string ⟨#[]⟩, v, .int .i64 fr, .int .i64 0]
  ow : wr.ownsRow (T + 1) 58 4 v az.length cs
  at_ : AttsC true az cs
  o : Below w.heap.size w wr
section
variable {w wr w' : World} {T : Nat} {x : ByteArray} {fr : Int} {v : Value} {az : List Att} {cs : List Value}
theorem OR.bel (h : OR w T x fr v az cs wr) (hb : Below wr.heap.size wr w') : OR w T x fr v az cs w' :=
  ⟨h.lT, h.t.below hb h.t.lt, h.k.below hb h.k.lt, ownsRow_ofBelow h.ow hb, h.at_, h.o.trans (hb.mono h.o.size)⟩
theorem OR.al (h : OR w T x fr v az cs wr) (o : Obj) : OR w T x fr v az cs (wr.alloc o) := h.bel ((Below.refl _ _).alloc (Nat.le_refl _) o)
theorem OR.drew (h : OR w T x fr v az cs wr) : OR w T x fr v az cs wr.drew := h.bel (below_drewT (Below.refl _ _))
theorem OR.far {D : Nat} {i : Nat} (h : OR w T x fr v az cs wr) (hD : T < D) (hv : v.ownBlock ≠ some D) (u : Value) : OR w T x fr v az cs (wr.setCell ⟨D, i, none⟩ u) := by
  have hlT := h.lT
  exact ⟨h.lT, h.t.far (p := ⟨D, i, none⟩) (by show w.heap.size ≠ D; omega) u, h.k.far (p := ⟨D, i, none⟩) (by show T ≠ D; omega) u, owns_far h.ow (p := ⟨D, i, none⟩) hv u, h.at_, h.o.setCell (p := ⟨D, i, none⟩) (by show w.heap.size ≤ D; omega) u⟩
theorem OR.att {a : Att} {p q : Value} {w3 : World} {g3 cap3 : Nat} {o1 : Obj} (h : OR w T x fr v az cs wr) (hp : PlG true a.frm a.to p q)
    (ho : w3.ownsRow (T + 1) 58 4 (.slice (some ⟨g3, 0, none⟩) (az.length + 1) cap3) (az.length + 1) (cs ++ [.string (strOf a.name), .string (strOf a.val), p, q]))
    (hg : (wr.alloc o1).grownBy w3 v.ownBlock) :
    OR w T x fr (.slice (some ⟨g3, 0, none⟩) (az.length + 1) cap3) (az ++ [a]) (cs ++ [.string (strOf a.name), .string (strOf a.val), p, q]) (w3.setCell ⟨T, 3, none⟩ (.slice (some ⟨g3, 0, none⟩) (az.length + 1) cap3)) := by
  have hnl := fun b hb => h.ow.lt b hb
  have hkl := h.k.lt
  have hbk : ∀ k, k < wr.heap.size → v.ownBlock ≠ some k → w3.heap[k]? = wr.heap[k]? := by
    intro k hk hkn
    rw [hg.block k (by simp; omega) (fun h => hkn h.symm)]
    exact Below.heap_alloc wr o1 k hk
  have hlow : ∀ k, k < T + 1 → v.ownBlock ≠ some k := fun k hk e => by have := (hnl k e).1; omega
  have hblk : ∀ k, k < wr.heap.size → k ≠ T → v.ownBlock ≠ some k → (w3.setCell ⟨T, 3, none⟩ (.slice (some ⟨g3, 0, none⟩) (az.length + 1) cap3)).heap[k]? = wr.heap[k]? := by
    intro k hk hne hkn
    rw [Below.heap_setCell w3 ⟨T, 3, none⟩ _ k hne, hbk k hk hkn]
  have hlT := h.lT
  have hk3 : Blk w3 T 34 #[.int .u8 111, .string x, .string ⟨#[]⟩, v, .int .i64 fr, .int .i64 0] := (hbk T hkl (hlow T (by omega))).trans h.k
  refine ⟨hlT, ?_, hk3.set_ 3 _, ?_, AttsC.snoc hp az cs h.at_, ?_⟩
  · exact (hblk w.heap.size h.t.lt (by omega) (hlow _ (by omega))).trans h.t
  · rw [List.length_append]; exact ownsRow_setCell_below ho (a := ⟨T, 3, none⟩) (by show T < T + 1; omega) _
  · have hs3 : wr.heap.size ≤ w3.heap.size := by have := hg.size; simp at this; omega
    have hsz : w.heap.size ≤ wr.heap.size := h.o.size
    exact h.o.trans ⟨hg.os, hg.tape, hg.output, by simp [World.setCell]; omega, fun k hk => hblk k (by omega) (by omega) (hlow k (by omega))⟩
end
/-- How the document's opening goes on at an attribute. -/
theorem opn_bad {l : List UInt8} {j : Nat} {az : List Att} (hj : j ≤ l.length) (h62 : ¬ bt l (runE gapB l j) = 62) (h : ((decide (runE gapB l j = j) || !isAttr (runT nameB l (runE gapB l j))) || !atS l sEq (runE nameB l (runE gapB l j))) = true) : opnJ l j az = none := by
  rw [opnJ_step l j az hj, if_neg h62]
  simp only [Bool.or_eq_true, decide_eq_true_eq, Bool.not_eq_true'] at h
  cases ha : attJ l (runE gapB l j) with
  | none => rfl
  | some p =>
    obtain ⟨a, k2⟩ := p
    dsimp only
    rcases h with (h | h) | h
    · rw [if_pos (.inl h)]
    · unfold attJ at ha; rw [if_neg (fun h2 => by rw [h] at h2; cases h2.1)] at ha; cases ha
    · unfold attJ at ha; rw [if_neg (fun h2 => by rw [h] at h2; cases h2.2)] at ha; cases ha
theorem attJ_name {l : List UInt8} {k : Nat} {a : Att} {k2 : Nat} (h : attJ l k = some (a, k2)) : a.name = runT nameB l k := by
  unfold attJ at h
  split at h
  · split at h
    · cases h
    · split at h
      · simp only [Option.some.injEq, Prod.mk.injEq] at h
        rw [← h.1]
      · cases h
  · cases h
theorem opn_dup {l : List UInt8} {j : Nat} {az : List Att} (hj : j ≤ l.length) (h62 : ¬ bt l (runE gapB l j) = 62) {i : Nat} {b : Att} (hb : az[i]? = some b) (hn : decide (b.name = runT nameB l (runE gapB l j)) = true) : opnJ l j az = none := by
  rw [opnJ_step l j az hj, if_neg h62]
  cases ha : attJ l (runE gapB l j) with
  | none => rfl
  | some p =>
    obtain ⟨a, k2⟩ := p
    dsimp only
    rw [if_pos (.inr (any_att (m := a.name) hb (by rw [attJ_name ha]; exact hn)))]
theorem opn_say {l : List UInt8} {j : Nat} {az : List Att} (hj : j ≤ l.length) (h62 : ¬ bt l (runE gapB l j) = 62) (h : sayJ 34 60 (l.drop (runE nameB l (runE gapB l j) + 2)) = none) : opnJ l j az = none := by
  rw [opnJ_step l j az hj, if_neg h62]
  have ha : attJ l (runE gapB l j) = none := by unfold attJ; rw [h]; split <;> rfl
  rw [ha]
theorem opn_end {l : List UInt8} {j m : Nat} {v : List UInt8} {az : List Att} (hj : j ≤ l.length) (h62 : ¬ bt l (runE gapB l j) = 62) (h : sayJ 34 60 (l.drop (runE nameB l (runE gapB l j) + 2)) = some (v, m)) (he : l.length ≤ runE nameB l (runE gapB l j) + 2 + m) : opnJ l j az = none := by
  rw [opnJ_step l j az hj, if_neg h62]
  have h0 : ¬ bt l (runE nameB l (runE gapB l j) + 2 + m) = 34 := fun h => by have := bt_pos_lt (l := l) (k := runE nameB l (runE gapB l j) + 2 + m) (by omega); omega
  have ha : attJ l (runE gapB l j) = none := by
    unfold attJ; rw [h]
    dsimp only
    rw [if_neg h0]; split <;> rfl
  rw [ha]
theorem opn_more {l : List UInt8} {j m : Nat} {v : List UInt8} {az : List Att} (hj : j ≤ l.length) (h62 : ¬ bt l (runE gapB l j) = 62) (h : sayJ 34 60 (l.drop (runE nameB l (runE gapB l j) + 2)) = some (v, m)) (he : runE nameB l (runE gapB l j) + 2 + m < l.length)
    (hb : ((decide (runE gapB l j = j) || !isAttr (runT nameB l (runE gapB l j))) || !atS l sEq (runE nameB l (runE gapB l j))) = false) (hd : ∀ (i : Nat) (b : Att), az[i]? = some b → decide (b.name = runT nameB l (runE gapB l j)) = false) :
    opnJ l j az = opnJ l (runE nameB l (runE gapB l j) + 2 + m + 1) (az ++ [⟨runT nameB l (runE gapB l j), v, runE nameB l (runE gapB l j) + 2, runE nameB l (runE gapB l j) + 2 + m⟩]) := by
  simp only [Bool.or_eq_false_iff, decide_eq_false_iff_not, Bool.not_eq_false'] at hb
  obtain ⟨⟨h1, h2⟩, h3⟩ := hb
  have h34 := (sayJ_bd 34 60 _ _ (Nat.le_refl _) v m h).2.2 (by rw [List.length_drop]; omega)
  rw [bt_drop] at h34
  have ha : attJ l (runE gapB l j) = some (⟨runT nameB l (runE gapB l j), v, runE nameB l (runE gapB l j) + 2, runE nameB l (runE gapB l j) + 2 + m⟩, runE nameB l (runE gapB l j) + 2 + m + 1) := by
    unfold attJ
    rw [if_pos ⟨h2, h3⟩, h]
    dsimp only
    rw [if_pos h34]
  rw [opnJ_step l j az hj, if_neg h62, ha]
  dsimp only
  rw [if_neg (fun h => by
    rcases h with h | h
    · exact h1 h
    · rw [none_att hd] at h; cases h)]
set_option maxRecDepth 100000 in
set_option maxHeartbeats 16000000 in
theorem ropening (s : ByteArray) (k : Nat) (w : World) (hk : k < s.size) (hs : s.size ≤ 1000000) :
    Calls Try.prog 41 #[.string s, .int .i64 k] w fun e w' => ROpn (if isElem (runT nameB s.data.toList (k + 1)) = true then opnJ s.data.toList (runE nameB s.data.toList (k + 1)) [] else none) (strOf (runT nameB s.data.toList (k + 1))) k w.heap.size e w' ∧ Below w.heap.size w w' := by
  have HL := Lib.hid (sz_len s)
  have hk1 : runE nameB s.data.toList (k + 1) ≤ s.size := by rw [sz_len]; exact runE_le _ _ _ (by rw [← sz_len]; exact hk)
  have hkg := runE_ge nameB s.data.toList (k + 1)
  have hrl := runT_len (P := nameB) (l := s.data.toList) (k := k + 1) (by rw [← sz_len]; exact hk)
  have HW : Hid (∀ w, Calls Try.prog 42 #[.string s, .int .i64 ((k : Int) + 1)] w fun e w' => e = .returned (.string (strOf (runT nameB s.data.toList (k + 1)))) ∧ w = w') := fun w => rword s (k + 1) w hk hs
  obtain ⟨N, hN⟩ : ∃ N, runT nameB s.data.toList (k + 1) = N := ⟨_, rfl⟩
  obtain ⟨k1, hk1e⟩ : ∃ k1, runE nameB s.data.toList (k + 1) = k1 := ⟨_, rfl⟩
  rw [hN, hk1e] at hrl
  rw [hk1e] at hk1 hkg
  simp only [hN, hk1e] at HW ⊢
  obtain ⟨x, hx⟩ : ∃ x, strOf N = x := ⟨_, rfl⟩
  have hxz : x.size = k1 - (k + 1) := by rw [← hx, strOf_size]; exact hrl
  have hxd : x.data.toList = N := by rw [← hx, strOf_list]
  have hxs : x.size ≤ 1000000 := by omega
  simp only [hx] at HW ⊢
  obtain ⟨R, hRr⟩ : ∃ R, (if isElem N = true then opnJ s.data.toList k1 [] else none) = R := ⟨_, rfl⟩
  rw [hRr]
  have HRE := Lib.hid hRr
  have HXZ := Lib.hid hxz
  have HXD := Lib.hid hxd
  have HT0 := Lib.hid (Blk.new w 34 #[.int .u8 0, .string ⟨#[]⟩, .string ⟨#[]⟩, .slice none 0 0, .int .i64 0, .int .i64 0])
  have HB0 := Lib.hid ((Below.refl w.heap.size w).alloc (Nat.le_refl _) (.cells #[.int .u8 0, .string ⟨#[]⟩, .string ⟨#[]⟩, .slice none 0 0, .int .i64 0, .int .i64 0] 34))
  have HS0 : Hid (w.heap.size < (w.alloc (.cells #[.int .u8 0, .string ⟨#[]⟩, .string ⟨#[]⟩, .slice none 0 0, .int .i64 0, .int .i64 0] 34)).heap.size) := by show _ < _; simp
  clear hRr hN hk1e hx hxz hxd hrl
  go_enter Try.func41, Try.ntmps41
  go_upto_region 1 with fail
  generalize w.alloc (.cells #[.int .u8 0, .string ⟨#[]⟩, .string ⟨#[]⟩, .slice none 0 0, .int .i64 0, .int .i64 0] 34) = W0 at *
  go_wp2_with fail
  refine (HW.out _).mono ?_
  rintro e w2 ⟨rfl, rfl⟩
  have HM3 : Hid (OR w W0.heap.size x k (.slice none 0 0) [] [] (W0.alloc (.cells #[.int .u8 111, .string x, .string ⟨#[]⟩, .slice none 0 0, .int .i64 k, .int .i64 0] 34))) :=
    ⟨HS0.out, HT0.out.alloc _, Blk.new W0 34 _, World.ownsRow_nil _ _ _ _, rfl, HB0.out.alloc HB0.out.size _⟩
  clear HT0 HB0 HS0 HW
  go_upto_region 2 with fail
  generalize hW : W0.alloc (.cells #[.int .u8 111, .string x, .string ⟨#[]⟩, .slice none 0 0, .int .i64 k, .int .i64 0] 34) = W3 at *
  generalize hA : W0.heap.size = T at *
  clear hW hA
  have k1c := HM3.out.k.cell 1
  go_upto_region 3 with fail
  have hBel : ∀ W, Below W3.drew.heap.size W3.drew W → W.cell? ⟨T, 1, none⟩ = some (.string x) := fun W h => ((HM3.out.drew).bel h).k.cell 1
  cases ha : isElem N with
  | false =>
    have HV : Hid (R = none) := by show _ = _; rw [← HRE.out, ha, if_neg (by decide)]
    have hax : isElem x.data.toList = false := by rw [HXD.out]; exact ha
    clear ha
    go_cut [29] (fun v wx => v = .bool true ∧ Below W3.heap.size W3 wx)
    case first =>
      go_region_held3 (fun w' => w'.cell? ⟨T, 1, none⟩ = some (.string x)) (first | exact k1c | exact hBel _ (Below.refl _ _) | exact hBel _ b5) (first | (go_at_call 44; refine (rnamed _).mono ?_; rintro e w5 ⟨rfl, b5, hin5⟩) | (go_at_call 43; refine (hin5 x _ (Below.refl _ _)).mono ?_; rw [hax]; rintro e w6 ⟨rfl, rfl⟩))
      (try go_wp2_with fail)
      go_meet
      exact ⟨rfl, (below_drewT (Below.refl _ _)).trans b5⟩
    case rest =>
    obtain ⟨rfl, hb5⟩ := hcut
    have HM5 := Lib.hid (HM3.out.bel hb5)
    clear k1c hBel HM3 hb5
    have hT8 := HM5.out.t
    have hK8 := HM5.out.k
    have hO8 := HM5.out.o
    have r0 := hT8.cell 0
    have f0 := hT8.frozen 0
    have r1 := hT8.cell 1
    have f1 := hT8.frozen 1
    have r2 := hT8.cell 2
    have f2 := hT8.frozen 2
    have r3 := hT8.cell 3
    have f3 := hT8.frozen 3
    have r4 := hT8.cell 4
    have f4 := hT8.frozen 4
    have r5 := hT8.cell 5
    have f5 := hT8.frozen 5
    have k0c := hK8.cell 0
    have k1c := hK8.cell 1
    have k2c := hK8.cell 2
    have k3c := hK8.cell 3
    have k4c := hK8.cell 4
    have k5c := hK8.cell 5
    go_wp2_with fail
    have hF := ((((((hT8.set_ 0 (.int .u8 111)).set_ 1 (.string x)).set_ 2 (.string ⟨#[]⟩)).set_ 3 (.slice none 0 0)).set_ 4 (.int .i64 k)).set_ 5 (.int .i64 0))
    have s0 : (World.setCell _ _ _).cell? _ = some (.int .u8 111) := hF.cell 0
    have s1 : (World.setCell _ _ _).cell? _ = some (.string x) := hF.cell 1
    have s2 : (World.setCell _ _ _).cell? _ = some (.string ⟨#[]⟩) := hF.cell 2
    have s3 : (World.setCell _ _ _).cell? _ = some (.slice none 0 0) := hF.cell 3
    have s4 : (World.setCell _ _ _).cell? _ = some (.int .i64 k) := hF.cell 4
    have s5 : (World.setCell _ _ _).cell? _ = some (.int .i64 0) := hF.cell 5
    exact bodyPost_ret (v := .tuple #[.agg #[.int .u8 111, .string x, .string ⟨#[]⟩, .slice none 0 0, .int .i64 k, .int .i64 0], .bool false]) (by simp [results, Try.f41, go_sem, s0, s1, s2, s3, s4, s5]) rfl ⟨by rw [HV.out]; exact ⟨_, _, _, _, _, _, _, _, rfl⟩, ((((((hO8.setCell (p := ⟨w.heap.size, 0, none⟩) (Nat.le_refl _) _).setCell (p := ⟨w.heap.size, 1, none⟩) (Nat.le_refl _) _).setCell (p := ⟨w.heap.size, 2, none⟩) (Nat.le_refl _) _).setCell (p := ⟨w.heap.size, 3, none⟩) (Nat.le_refl _) _).setCell (p := ⟨w.heap.size, 4, none⟩) (Nat.le_refl _) _).setCell (p := ⟨w.heap.size, 5, none⟩) (Nat.le_refl _) _)⟩
  | true =>
    have HRR : Hid (opnJ s.data.toList k1 [] = R) := by show _ = _; rw [← HRE.out, ha, if_pos rfl]
    have hax : isElem x.data.toList = true := by rw [HXD.out]; exact ha
    clear ha
    go_cut [29] (fun v wx => v = .bool false ∧ Below W3.heap.size W3 wx)
    case first =>
      go_region_held3 (fun w' => w'.cell? ⟨T, 1, none⟩ = some (.string x)) (first | exact k1c | exact hBel _ (Below.refl _ _) | exact hBel _ b5) (first | (go_at_call 44; refine (rnamed _).mono ?_; rintro e w5 ⟨rfl, b5, hin5⟩) | (go_at_call 43; refine (hin5 x _ (Below.refl _ _)).mono ?_; rw [hax]; rintro e w6 ⟨rfl, rfl⟩))
      (try go_wp2_with fail)
      go_meet
      exact ⟨rfl, (below_drewT (Below.refl _ _)).trans b5⟩
    case rest =>
    obtain ⟨rfl, hb5⟩ := hcut
    have HM4 := Lib.hid (HM3.out.bel hb5)
    clear k1c hBel HM3 hb5
    go_wp2_with fail
    go_loopw [1] (fun z wr => ∃ (j : Nat) (az : List Att) (v : Value) (cs : List Value), z = .int .i64 j ∧ j ≤ s.size ∧ az.length ≤ j ∧ R = opnJ s.data.toList j az ∧ OR w T x k v az cs wr) (fun z wr => s.size - (intOf z).toNat)
    case atStart => exact ⟨k1, [], _, _, by have := HXZ.out; (refine congrArg _ ?_; omega), hk1, by simp, HRR.out.symm, HM4.out⟩
    case round =>
      obtain ⟨wo, rfl⟩ : ∃ wo, wo = wr := ⟨_, rfl⟩
      obtain ⟨j, az, v, cs, rfl, hj, haz, hr, hm⟩ := hrel
      have HV0 := Lib.hid hr
      have HM := Lib.hid hm
      obtain ⟨o6, m6, c6, rfl⟩ := own_shapeT hm.ow
      have hm6 : m6 = az.length := by
        rcases hm.ow.2 with ⟨h1, h2⟩ | ⟨g1, cap1, cur1, h1, _⟩
        · simp only [Value.slice.injEq] at h1; omega
        · simp only [Value.slice.injEq] at h1; omega
      subst hm6
      clear hr hm HM4 HRR hax
      have hjl : j ≤ s.data.toList.length := by rw [← sz_len]; exact hj
      have hj1 : runE gapB s.data.toList j ≤ s.size := by rw [sz_len]; exact runE_le _ _ _ hjl
      have hjg := runE_ge gapB s.data.toList j
      have HBL := Lib.hid (fun w => rblanks s j w hj hs)
      have P1 := Lib.hid (fun az h62 h => opn_bad (az := az) hjl h62 h)
      have P2 := Lib.hid (fun az h62 i b hb hn => opn_dup (az := az) (i := i) (b := b) hjl h62 hb hn)
      have P3 := Lib.hid (fun az h62 h => opn_say (az := az) hjl h62 h)
      have P4 := Lib.hid (fun az h62 v m h he => opn_end (az := az) (v := v) (m := m) hjl h62 h he)
      have P5 := Lib.hid (fun az h62 v m h he hb hd => opn_more (az := az) (v := v) (m := m) hjl h62 h he hb hd)
      have HST := Lib.hid (opnJ_step s.data.toList j az hjl)
      obtain ⟨j1, hj1e⟩ : ∃ j1, runE gapB s.data.toList j = j1 := ⟨_, rfl⟩
      rw [hj1e] at hj1 hjg HST
      simp only [hj1e] at HBL P1 P2 P3 P4 P5
      clear hj1e hjl
      have ha62 := atS_one s.data.toList 62 j1 (by decide)
      go_wp2_with fail
      refine (HBL.out _).mono ?_
      rintro e w5 ⟨rfl, rfl⟩
      clear HBL
      by_cases h62 : bt s.data.toList j1 = 62
      · have HV : Hid (R = some (az, j1 + 1)) := by show _ = _; rw [HV0.out, HST.out, if_pos h62]
        have HBG : Hid (∀ w, Calls Try.prog 40 #[.string s, .string ⟨#[62]⟩, .int .i64 j1] w fun e w' => e = .returned (.bool true) ∧ w = w') := fun w => begins_at s ⟨#[62]⟩ j1 true w hs (by decide) (ha62.trans (decide_eq_true h62))
        clear h62 ha62 HST P1 P2 P3 P4 P5
        go_wp2_with fail
        refine (HBG.out _).mono ?_
        rintro e w6 ⟨rfl, rfl⟩
        have r5 := HM.out.k.cell 5
        have f5 := HM.out.k.frozen 5
        go_upto_region 8 with fail
        have hlT := HM.out.lT
        have HK7 : Hid (Blk (wo.setCell ⟨T, 5, none⟩ (.int .i64 ((j1 : Int) + 1))) T 34 #[.int .u8 111, .string x, .string ⟨#[]⟩, .slice o6 az.length c6, .int .i64 k, .int .i64 ((j1 : Int) + 1)]) := HM.out.k.set_ 5 _
        have HT7 : Hid (Blk (wo.setCell ⟨T, 5, none⟩ (.int .i64 ((j1 : Int) + 1))) w.heap.size 34 #[.int .u8 0, .string ⟨#[]⟩, .string ⟨#[]⟩, .slice none 0 0, .int .i64 0, .int .i64 0]) := Blk.far HM.out.t (p := ⟨T, 5, none⟩) (by show w.heap.size ≠ T; omega) _
        have HO7 : Hid (Below w.heap.size w (wo.setCell ⟨T, 5, none⟩ (.int .i64 ((j1 : Int) + 1)))) := HM.out.o.setCell (p := ⟨T, 5, none⟩) (by show w.heap.size ≤ T; omega) _
        have HW7 : Hid ((wo.setCell ⟨T, 5, none⟩ (.int .i64 ((j1 : Int) + 1))).ownsRow (T + 1) 58 4 (.slice o6 az.length c6) az.length cs) := ownsRow_setCell_below HM.out.ow (a := ⟨T, 5, none⟩) (by show T < T + 1; omega) _
        have HA7 := Lib.hid HM.out.at_
        clear HM r5 f5
        generalize wo.setCell ⟨T, 5, none⟩ (.int .i64 ((j1 : Int) + 1)) = W7 at *
        have hT8 := HT7.out
        have hK8 := HK7.out
        have hO8 := HO7.out
        have r0 := hT8.cell 0
        have f0 := hT8.frozen 0
        have r1 := hT8.cell 1
        have f1 := hT8.frozen 1
        have r2 := hT8.cell 2
        have f2 := hT8.frozen 2
        have r3 := hT8.cell 3
        have f3 := hT8.frozen 3
        have r4 := hT8.cell 4
        have f4 := hT8.frozen 4
        have r5 := hT8.cell 5
        have f5 := hT8.frozen 5
        have k0c := hK8.cell 0
        have k1c := hK8.cell 1
        have k2c := hK8.cell 2
        have k3c := hK8.cell 3
        have k4c := hK8.cell 4
        have k5c := hK8.cell 5
        go_wp2_with fail
        have hF6 : ∀ b, b ≠ w.heap.size → ((((((W7.setCell ⟨w.heap.size, 0, none⟩ (.int .u8 111)).setCell ⟨w.heap.size, 1, none⟩ (.string x)).setCell ⟨w.heap.size, 2, none⟩ (.string ⟨#[]⟩)).setCell ⟨w.heap.size, 3, none⟩ (.slice o6 az.length c6)).setCell ⟨w.heap.size, 4, none⟩ (.int .i64 k)).setCell ⟨w.heap.size, 5, none⟩ (.int .i64 ((j1 : Int) + 1))).heap[b]? = W7.heap[b]? := fun b hb => by
          iterate 6 rw [Below.heap_setCell _ _ _ b hb]
        have hF := ((((((hT8.set_ 0 (.int .u8 111)).set_ 1 (.string x)).set_ 2 (.string ⟨#[]⟩)).set_ 3 (.slice o6 az.length c6)).set_ 4 (.int .i64 k)).set_ 5 (.int .i64 ((j1 : Int) + 1)))
        have s0 : (World.setCell _ _ _).cell? _ = some (.int .u8 111) := hF.cell 0
        have s1 : (World.setCell _ _ _).cell? _ = some (.string x) := hF.cell 1
        have s2 : (World.setCell _ _ _).cell? _ = some (.string ⟨#[]⟩) := hF.cell 2
        have s3 : (World.setCell _ _ _).cell? _ = some (.slice o6 az.length c6) := hF.cell 3
        have s4 : (World.setCell _ _ _).cell? _ = some (.int .i64 k) := hF.cell 4
        have s5 : (World.setCell _ _ _).cell? _ = some (.int .i64 ((j1 : Int) + 1)) := hF.cell 5
        exact bodyPost_ret (v := .tuple #[.agg #[.int .u8 111, .string x, .string ⟨#[]⟩, .slice o6 az.length c6, .int .i64 k, .int .i64 ((j1 : Int) + 1)], .bool true]) (by simp [results, Try.f41, go_sem, s0, s1, s2, s3, s4, s5]) rfl ⟨by rw [HV.out]; exact ⟨_, cs, rfl, RowG.mono (ok := fun b => T + 1 ≤ b) (fun b hb hl => ⟨by omega, by simp [World.setCell]; exact hl, hF6 b (by omega)⟩) (RowG.own HW7.out (fun g _ h => h)), HA7.out⟩, ((((((hO8.setCell (p := ⟨w.heap.size, 0, none⟩) (Nat.le_refl _) _).setCell (p := ⟨w.heap.size, 1, none⟩) (Nat.le_refl _) _).setCell (p := ⟨w.heap.size, 2, none⟩) (Nat.le_refl _) _).setCell (p := ⟨w.heap.size, 3, none⟩) (Nat.le_refl _) _).setCell (p := ⟨w.heap.size, 4, none⟩) (Nat.le_refl _) _).setCell (p := ⟨w.heap.size, 5, none⟩) (Nat.le_refl _) _)⟩
      · have HBG : Hid (∀ w, Calls Try.prog 40 #[.string s, .string ⟨#[62]⟩, .int .i64 j1] w fun e w' => e = .returned (.bool false) ∧ w = w') := fun w => begins_at s ⟨#[62]⟩ j1 false w hs (by decide) (ha62.trans (decide_eq_false h62))
        have H62 := Lib.hid h62
        have hj1l : j1 ≤ s.data.toList.length := by rw [← sz_len]; exact hj1
        have HW2 := Lib.hid (fun w => rword s j1 w hj1 hs)
        have hj2 : runE nameB s.data.toList j1 ≤ s.size := by rw [sz_len]; exact runE_le _ _ _ hj1l
        have hj2g := runE_ge nameB s.data.toList j1
        have hyl := runT_len (P := nameB) (l := s.data.toList) (k := j1) hj1l
        clear h62 ha62 HST
        obtain ⟨N2, hN2⟩ : ∃ N, runT nameB s.data.toList j1 = N := ⟨_, rfl⟩
        obtain ⟨j2, hj2e⟩ : ∃ k, runE nameB s.data.toList j1 = k := ⟨_, rfl⟩
        rw [hN2, hj2e] at hyl
        rw [hj2e] at hj2 hj2g
        simp only [hN2, hj2e] at HW2 P1 P2 P3 P4 P5
        obtain ⟨y, hy⟩ : ∃ y, strOf N2 = y := ⟨_, rfl⟩
        have hyz : y.size = j2 - j1 := by rw [← hy, strOf_size]; exact hyl
        have hyd : y.data.toList = N2 := by rw [← hy, strOf_list]
        have hys : y.size ≤ 1000000 := by omega
        simp only [hy] at HW2
        have HYZ := Lib.hid hyz
        have HYD := Lib.hid hyd
        have HYE := Lib.hid hy
        have hwy : IntKind.i64.wrap ((j1 : Int) + (y.size : Int)) = (j1 : Int) + (y.size : Int) := IntWalk.i64_in _ (by omega)
        have hbq : ∀ b w, atS s.data.toList sEq j2 = b → Calls Try.prog 40 #[.string s, .string ⟨#[61, 34]⟩, .int .i64 ((j1 : Int) + (y.size : Int))] w fun e w' => e = .returned (.bool b) ∧ w = w' := fun b w hb => by
          have h := begins_at s ⟨#[61, 34]⟩ j2 b w hs (by decide) hb
          rwa [show ((j2 : Nat) : Int) = (j1 : Int) + (y.size : Int) by omega] at h
        obtain ⟨bq, hbe⟩ : ∃ b, atS s.data.toList sEq j2 = b := ⟨_, rfl⟩
        have HBQ := Lib.hid (fun w => hbq bq w hbe)
        have HEQ := Lib.hid hbe
        clear hN2 hj2e hyl hyz hyd hy hbq hbe hj1l
        go_wp2_with fail
        refine (HBG.out _).mono ?_
        rintro e w6 ⟨rfl, rfl⟩
        go_wp2_with fail
        refine (HW2.out _).mono ?_
        rintro e w6 ⟨rfl, rfl⟩
        have HM9 := Lib.hid (HM.out.al (.cells #[.string y, .string ⟨#[]⟩, .int .i64 0, .int .i64 0] 58))
        have HD9 := Lib.hid (Blk.new wo 58 #[.string y, .string ⟨#[]⟩, .int .i64 0, .int .i64 0])
        have HTD : Hid (T < wo.heap.size) := HM.out.k.lt
        have HOD : Hid ((Value.slice o6 az.length c6).ownBlock ≠ some wo.heap.size) := fun h => by have := (HM.out.ow.lt _ h).2; omega
        clear HBG HW2 HM
        go_upto_region 10 with fail
        generalize hW9 : wo.alloc (.cells #[.string y, .string ⟨#[]⟩, .int .i64 0, .int .i64 0] 58) = W9 at *
        generalize hD9 : wo.heap.size = D at *
        clear hW9 hD9
        have d0 := HD9.out.cell 0
        have hBel : ∀ W, Below W9.drew.heap.size W9.drew W → W.cell? ⟨D, 0, none⟩ = some (.string y) := fun W h => (HD9.out.drew.below h HD9.out.drew.lt).cell 0
        obtain ⟨b1, hb1⟩ : ∃ b, decide (j1 = j) = b := ⟨_, rfl⟩
        obtain ⟨b2, hb2⟩ : ∃ b, isAttr y.data.toList = b := ⟨_, rfl⟩
        have HG1 := Lib.hid hb1
        have HG2 := Lib.hid hb2
        clear hb1 hb2
        go_cut [64] (fun v wx => v = .bool ((b1 || !b2) || !bq) ∧ Below W9.heap.size W9 wx)
        case first =>
          as_aux_lemma =>
          by_cases hgap : j1 = j
          · have HE1 : Hid (b1 = true) := by show _ = _; rw [← HG1.out]; exact decide_eq_true hgap
            have z1 : ((j1 : Int) == (j : Int)) = true := by simp; omega
            clear hgap
            refine wp_region_held_drew (S := (fun w' => w'.cell? ⟨D, 0, none⟩ = some (.string y))) (by kernel_rfl) (by exact d0) (fun hHeld => ?_)
            refine wpAnyH_take (i := 0) (v := ?_) rfl (by kernel_rfl) (by kernel_rfl) (by kernel_rfl) (fun _ _ _ h => h) (Or.inl ⟨by rfl, ?_⟩) (by assumption) ?_
            rotate_left
            · intro w hSw
              go_simp
              try rfl
            simp only [Act.put, List.setIfInBounds_toArray, List.set_cons_zero, List.set_cons_succ, List.getElem_toArray, List.getElem_cons_succ, List.getElem_cons_zero]
            refine wpAnyH_take (i := 1) (v := ?_) rfl (by kernel_rfl) (by kernel_rfl) (by kernel_rfl) (fun _ _ _ h => h) (Or.inl ⟨by rfl, ?_⟩) (by assumption) ?_
            rotate_left
            · intro w hSw
              go_simp
              try rfl
            simp only [Act.put, List.setIfInBounds_toArray, List.set_cons_zero, List.set_cons_succ, List.getElem_toArray, List.getElem_cons_succ, List.getElem_cons_zero]
            refine wpAnyH_take (i := 2) (v := ?_) rfl (by kernel_rfl) (by kernel_rfl) (by kernel_rfl) (fun _ _ _ h => h) (Or.inl ⟨by rfl, ?_⟩) (by assumption) ?_
            rotate_left
            · intro w hSw
              go_simp
              try rfl
            simp only [Act.put, List.setIfInBounds_toArray, List.set_cons_zero, List.set_cons_succ, List.getElem_toArray, List.getElem_cons_succ, List.getElem_cons_zero]
            refine wpAnyH_take (i := 3) (v := ?_) rfl (by kernel_rfl) (by kernel_rfl) (by kernel_rfl) (fun _ _ _ h => h) (Or.inl ⟨by rfl, ?_⟩) (by assumption) ?_
            rotate_left
            · intro w hSw
              go_simp
              try rfl
            simp only [Act.put, List.setIfInBounds_toArray, List.set_cons_zero, List.set_cons_succ, List.getElem_toArray, List.getElem_cons_succ, List.getElem_cons_zero]
            refine wpAnyH_take (i := 4) (v := undef) rfl (by kernel_rfl) (by kernel_rfl) (by kernel_rfl) (fun _ _ _ h => h) (Or.inr ⟨by rfl, rfl⟩) (by assumption) ?_
            simp only [Act.put, List.setIfInBounds_toArray, List.set_cons_zero, List.set_cons_succ, List.getElem_toArray, List.getElem_cons_succ, List.getElem_cons_zero]
            refine wpAnyH_take (i := 5) (v := undef) rfl (by kernel_rfl) (by kernel_rfl) (by kernel_rfl) (fun _ _ _ h => h) (Or.inr ⟨by rfl, rfl⟩) (by assumption) ?_
            simp only [Act.put, List.setIfInBounds_toArray, List.set_cons_zero, List.set_cons_succ, List.getElem_toArray, List.getElem_cons_succ, List.getElem_cons_zero]
            refine wpAnyH_take (i := 6) (v := undef) rfl (by kernel_rfl) (by kernel_rfl) (by kernel_rfl) (fun _ _ _ h => h) (Or.inr ⟨by rfl, rfl⟩) (by assumption) ?_
            simp only [Act.put, List.setIfInBounds_toArray, List.set_cons_zero, List.set_cons_succ, List.getElem_toArray, List.getElem_cons_succ, List.getElem_cons_zero]
            refine wpAnyH_take (i := 7) (v := undef) rfl (by kernel_rfl) (by kernel_rfl) (by kernel_rfl) (fun _ _ _ h => h) (Or.inr ⟨by rfl, rfl⟩) (by assumption) ?_
            simp only [Act.put, List.setIfInBounds_toArray, List.set_cons_zero, List.set_cons_succ, List.getElem_toArray, List.getElem_cons_succ, List.getElem_cons_zero]
            refine wpAnyH_take (i := 8) (v := undef) rfl (by kernel_rfl) (by kernel_rfl) (by kernel_rfl) (fun _ _ _ h => h) (Or.inr ⟨by rfl, rfl⟩) (by assumption) ?_
            simp only [Act.put, List.setIfInBounds_toArray, List.set_cons_zero, List.set_cons_succ, List.getElem_toArray, List.getElem_cons_succ, List.getElem_cons_zero]
            refine wpAnyH_take (i := 9) (v := ?_) rfl (by kernel_rfl) (by kernel_rfl) (by kernel_rfl) (fun _ _ _ h => h) (Or.inl ⟨by rfl, ?_⟩) (by assumption) ?_
            rotate_left
            · intro w hSw
              go_simp
              try rfl
            simp only [Act.put, List.setIfInBounds_toArray, List.set_cons_zero, List.set_cons_succ, List.getElem_toArray, List.getElem_cons_succ, List.getElem_cons_zero]
            refine wpAnyH_take (i := 10) (v := ?_) rfl (by kernel_rfl) (by kernel_rfl) (by kernel_rfl) (fun _ _ _ h => h) (Or.inl ⟨by rfl, ?_⟩) (by assumption) ?_
            rotate_left
            · intro w hSw
              go_simp
              try rfl
            simp only [Act.put, List.setIfInBounds_toArray, List.set_cons_zero, List.set_cons_succ, List.getElem_toArray, List.getElem_cons_succ, List.getElem_cons_zero]
            refine wpAnyH_take (i := 11) (v := undef) rfl (by kernel_rfl) (by kernel_rfl) (by kernel_rfl) (fun _ _ _ h => h) (Or.inr ⟨by rfl, rfl⟩) (by assumption) ?_
            simp only [Act.put, List.setIfInBounds_toArray, List.set_cons_zero, List.set_cons_succ, List.getElem_toArray, List.getElem_cons_succ, List.getElem_cons_zero]
            refine wpAnyH_take (i := 12) (v := undef) rfl (by kernel_rfl) (by kernel_rfl) (by kernel_rfl) (fun _ _ _ h => h) (Or.inr ⟨by rfl, rfl⟩) (by assumption) ?_
            simp only [Act.put, List.setIfInBounds_toArray, List.set_cons_zero, List.set_cons_succ, List.getElem_toArray, List.getElem_cons_succ, List.getElem_cons_zero]
            refine wpAnyH_take (i := 13) (v := undef) rfl (by kernel_rfl) (by kernel_rfl) (by kernel_rfl) (fun _ _ _ h => h) (Or.inr ⟨by rfl, rfl⟩) (by assumption) ?_
            simp only [Act.put, List.setIfInBounds_toArray, List.set_cons_zero, List.set_cons_succ, List.getElem_toArray, List.getElem_cons_succ, List.getElem_cons_zero]
            refine wpAnyH_take (i := 14) (v := undef) rfl (by kernel_rfl) (by kernel_rfl) (by kernel_rfl) (fun _ _ _ h => h) (Or.inr ⟨by rfl, rfl⟩) (by assumption) ?_
            simp only [Act.put, List.setIfInBounds_toArray, List.set_cons_zero, List.set_cons_succ, List.getElem_toArray, List.getElem_cons_succ, List.getElem_cons_zero]
            refine wpAnyH_take (i := 15) (v := undef) rfl (by kernel_rfl) (by kernel_rfl) (by kernel_rfl) (fun _ _ _ h => h) (Or.inr ⟨by rfl, rfl⟩) (by assumption) ?_
            simp only [Act.put, List.setIfInBounds_toArray, List.set_cons_zero, List.set_cons_succ, List.getElem_toArray, List.getElem_cons_succ, List.getElem_cons_zero]
            refine wpAnyH_take (i := 16) (v := undef) rfl (by kernel_rfl) (by kernel_rfl) (by kernel_rfl) (fun _ _ _ h => h) (Or.inr ⟨by rfl, rfl⟩) (by assumption) ?_
            simp only [Act.put, List.setIfInBounds_toArray, List.set_cons_zero, List.set_cons_succ, List.getElem_toArray, List.getElem_cons_succ, List.getElem_cons_zero]
            refine wpAnyH_take (i := 17) (v := undef) rfl (by kernel_rfl) (by kernel_rfl) (by kernel_rfl) (fun _ _ _ h => h) (Or.inr ⟨by rfl, rfl⟩) (by assumption) ?_
            simp only [Act.put, List.setIfInBounds_toArray, List.set_cons_zero, List.set_cons_succ, List.getElem_toArray, List.getElem_cons_succ, List.getElem_cons_zero]
            refine wpAnyH_take (i := 18) (v := undef) rfl (by kernel_rfl) (by kernel_rfl) (by kernel_rfl) (fun _ _ _ h => h) (Or.inr ⟨by rfl, rfl⟩) (by assumption) ?_
            simp only [Act.put, List.setIfInBounds_toArray, List.set_cons_zero, List.set_cons_succ, List.getElem_toArray, List.getElem_cons_succ, List.getElem_cons_zero]
            refine wpAnyH_take (i := 19) (v := ?_) rfl (by kernel_rfl) (by kernel_rfl) (by kernel_rfl) (fun _ _ _ h => h) (Or.inl ⟨by rfl, ?_⟩) (by assumption) ?_
            rotate_left
            · intro w hSw
              go_simp
              try rfl
            simp only [Act.put, List.setIfInBounds_toArray, List.set_cons_zero, List.set_cons_succ, List.getElem_toArray, List.getElem_cons_succ, List.getElem_cons_zero]
            refine wpAnyH_done (by kernel_rfl) ?_ _
            clear hHeld
            (try go_wp2_with fail)
            go_meet
            exact ⟨by rw [HE1.out]; rfl, below_drewT (Below.refl _ _)⟩
          · have HE1 : Hid (b1 = false) := by show _ = _; rw [← HG1.out]; exact decide_eq_false hgap
            have z1 : ((j1 : Int) == (j : Int)) = false := by simp; omega
            clear hgap
            cases b2 with
            | false =>
              refine wp_region_held_drew (S := (fun w' => w'.cell? ⟨D, 0, none⟩ = some (.string y))) (by kernel_rfl) (by exact d0) (fun hHeld => ?_)
              refine wpAnyH_take (i := 0) (v := ?_) rfl (by kernel_rfl) (by kernel_rfl) (by kernel_rfl) (fun _ _ _ h => h) (Or.inl ⟨by rfl, ?_⟩) (by assumption) ?_
              rotate_left
              · intro w hSw
                go_simp
                try rfl
              simp only [Act.put, List.setIfInBounds_toArray, List.set_cons_zero, List.set_cons_succ, List.getElem_toArray, List.getElem_cons_succ, List.getElem_cons_zero]
              refine wpAnyH_take (i := 1) (v := ?_) rfl (by kernel_rfl) (by kernel_rfl) (by kernel_rfl) (fun _ _ _ h => h) (Or.inl ⟨by rfl, ?_⟩) (by assumption) ?_
              rotate_left
              · intro w hSw
                go_simp
                try rfl
              simp only [Act.put, List.setIfInBounds_toArray, List.set_cons_zero, List.set_cons_succ, List.getElem_toArray, List.getElem_cons_succ, List.getElem_cons_zero]
              refine wpAnyH_take (i := 2) (v := ?_) rfl (by kernel_rfl) (by kernel_rfl) (by kernel_rfl) (fun _ _ _ h => h) (Or.inl ⟨by rfl, ?_⟩) (by assumption) ?_
              rotate_left
              · intro w hSw
                go_simp
                try rfl
              simp only [Act.put, List.setIfInBounds_toArray, List.set_cons_zero, List.set_cons_succ, List.getElem_toArray, List.getElem_cons_succ, List.getElem_cons_zero]
              refine wpAnyH_take (i := 3) (v := ?_) rfl (by kernel_rfl) (by kernel_rfl) (by kernel_rfl) (fun _ _ _ h => h) (Or.inl ⟨by rfl, ?_⟩) (by assumption) ?_
              rotate_left
              · intro w hSw
                go_simp
                try rfl
              simp only [Act.put, List.setIfInBounds_toArray, List.set_cons_zero, List.set_cons_succ, List.getElem_toArray, List.getElem_cons_succ, List.getElem_cons_zero]
              refine wpAnyH_take (i := 5) (v := ?_) rfl (by kernel_rfl) (by kernel_rfl) (by kernel_rfl) (fun _ _ _ h => h) (Or.inl ⟨by rfl, ?_⟩) (by assumption) ?_
              rotate_left
              · intro w hSw
                go_simp
                try rfl
              simp only [Act.put, List.setIfInBounds_toArray, List.set_cons_zero, List.set_cons_succ, List.getElem_toArray, List.getElem_cons_succ, List.getElem_cons_zero]
              refine wpAnyH_take (i := 6) (v := ?_) rfl (by kernel_rfl) (by kernel_rfl) (by kernel_rfl) (fun _ _ _ h => h) (Or.inl ⟨by rfl, ?_⟩) (by assumption) ?_
              rotate_left
              · intro w hSw
                go_simp
                try rfl
              simp only [Act.put, List.setIfInBounds_toArray, List.set_cons_zero, List.set_cons_succ, List.getElem_toArray, List.getElem_cons_succ, List.getElem_cons_zero]
              refine wpAnyH_ready (rs := [4]) (by kernel_rfl) (by simp) ?_
              refine AllReadyH.cons rfl (fun K9 hK => ?_) AllReadyH.nil
              go_simp
              go_at_call 61
              refine (rattrd _).mono ?_
              rintro e w5 ⟨rfl, b5, hin5⟩
              have hd5 := (hBel _ b5)
              try go_wp2_with fail
              refine hK.out _ _ (by exact hd5) (fun hHeld => ?_)
              clear hK K9
              try simp only [Act.put, List.setIfInBounds_toArray, List.set_cons_zero, List.set_cons_succ, List.getElem_toArray, List.getElem_cons_succ, List.getElem_cons_zero]
              refine wpAnyH_ready (rs := [7]) (by kernel_rfl) (by simp) ?_
              refine AllReadyH.cons rfl (fun K9 hK => ?_) AllReadyH.nil
              go_simp
              go_at_call 43
              refine (hin5 y _ (Below.refl _ _)).mono ?_
              rw [HG2.out]
              rintro e w6 ⟨rfl, rfl⟩
              try go_wp2_with fail
              refine hK.out _ _ (by exact hd5) (fun hHeld => ?_)
              clear hK K9
              try simp only [Act.put, List.setIfInBounds_toArray, List.set_cons_zero, List.set_cons_succ, List.getElem_toArray, List.getElem_cons_succ, List.getElem_cons_zero]
              refine wpAnyH_take (i := 8) (v := ?_) rfl (by kernel_rfl) (by kernel_rfl) (by kernel_rfl) (fun _ _ _ h => h) (Or.inl ⟨by rfl, ?_⟩) (by assumption) ?_
              rotate_left
              · intro w hSw
                go_simp
                try rfl
              simp only [Act.put, List.setIfInBounds_toArray, List.set_cons_zero, List.set_cons_succ, List.getElem_toArray, List.getElem_cons_succ, List.getElem_cons_zero]
              refine wpAnyH_take (i := 9) (v := ?_) rfl (by kernel_rfl) (by kernel_rfl) (by kernel_rfl) (fun _ _ _ h => h) (Or.inl ⟨by rfl, ?_⟩) (by assumption) ?_
              rotate_left
              · intro w hSw
                go_simp
                try rfl
              simp only [Act.put, List.setIfInBounds_toArray, List.set_cons_zero, List.set_cons_succ, List.getElem_toArray, List.getElem_cons_succ, List.getElem_cons_zero]
              refine wpAnyH_take (i := 10) (v := ?_) rfl (by kernel_rfl) (by kernel_rfl) (by kernel_rfl) (fun _ _ _ h => h) (Or.inl ⟨by rfl, ?_⟩) (by assumption) ?_
              rotate_left
              · intro w hSw
                go_simp
                try rfl
              simp only [Act.put, List.setIfInBounds_toArray, List.set_cons_zero, List.set_cons_succ, List.getElem_toArray, List.getElem_cons_succ, List.getElem_cons_zero]
              refine wpAnyH_take (i := 11) (v := undef) rfl (by kernel_rfl) (by kernel_rfl) (by kernel_rfl) (fun _ _ _ h => h) (Or.inr ⟨by rfl, rfl⟩) (by assumption) ?_
              simp only [Act.put, List.setIfInBounds_toArray, List.set_cons_zero, List.set_cons_succ, List.getElem_toArray, List.getElem_cons_succ, List.getElem_cons_zero]
              refine wpAnyH_take (i := 12) (v := undef) rfl (by kernel_rfl) (by kernel_rfl) (by kernel_rfl) (fun _ _ _ h => h) (Or.inr ⟨by rfl, rfl⟩) (by assumption) ?_
              simp only [Act.put, List.setIfInBounds_toArray, List.set_cons_zero, List.set_cons_succ, List.getElem_toArray, List.getElem_cons_succ, List.getElem_cons_zero]
              refine wpAnyH_take (i := 13) (v := undef) rfl (by kernel_rfl) (by kernel_rfl) (by kernel_rfl) (fun _ _ _ h => h) (Or.inr ⟨by rfl, rfl⟩) (by assumption) ?_
              simp only [Act.put, List.setIfInBounds_toArray, List.set_cons_zero, List.set_cons_succ, List.getElem_toArray, List.getElem_cons_succ, List.getElem_cons_zero]
              refine wpAnyH_take (i := 14) (v := undef) rfl (by kernel_rfl) (by kernel_rfl) (by kernel_rfl) (fun _ _ _ h => h) (Or.inr ⟨by rfl, rfl⟩) (by assumption) ?_
              simp only [Act.put, List.setIfInBounds_toArray, List.set_cons_zero, List.set_cons_succ, List.getElem_toArray, List.getElem_cons_succ, List.getElem_cons_zero]
              refine wpAnyH_take (i := 15) (v := undef) rfl (by kernel_rfl) (by kernel_rfl) (by kernel_rfl) (fun _ _ _ h => h) (Or.inr ⟨by rfl, rfl⟩) (by assumption) ?_
              simp only [Act.put, List.setIfInBounds_toArray, List.set_cons_zero, List.set_cons_succ, List.getElem_toArray, List.getElem_cons_succ, List.getElem_cons_zero]
              refine wpAnyH_take (i := 16) (v := undef) rfl (by kernel_rfl) (by kernel_rfl) (by kernel_rfl) (fun _ _ _ h => h) (Or.inr ⟨by rfl, rfl⟩) (by assumption) ?_
              simp only [Act.put, List.setIfInBounds_toArray, List.set_cons_zero, List.set_cons_succ, List.getElem_toArray, List.getElem_cons_succ, List.getElem_cons_zero]
              refine wpAnyH_take (i := 17) (v := undef) rfl (by kernel_rfl) (by kernel_rfl) (by kernel_rfl) (fun _ _ _ h => h) (Or.inr ⟨by rfl, rfl⟩) (by assumption) ?_
              simp only [Act.put, List.setIfInBounds_toArray, List.set_cons_zero, List.set_cons_succ, List.getElem_toArray, List.getElem_cons_succ, List.getElem_cons_zero]
              refine wpAnyH_take (i := 18) (v := undef) rfl (by kernel_rfl) (by kernel_rfl) (by kernel_rfl) (fun _ _ _ h => h) (Or.inr ⟨by rfl, rfl⟩) (by assumption) ?_
              simp only [Act.put, List.setIfInBounds_toArray, List.set_cons_zero, List.set_cons_succ, List.getElem_toArray, List.getElem_cons_succ, List.getElem_cons_zero]
              refine wpAnyH_take (i := 19) (v := ?_) rfl (by kernel_rfl) (by kernel_rfl) (by kernel_rfl) (fun _ _ _ h => h) (Or.inl ⟨by rfl, ?_⟩) (by assumption) ?_
              rotate_left
              · intro w hSw
                go_simp
                try rfl
              simp only [Act.put, List.setIfInBounds_toArray, List.set_cons_zero, List.set_cons_succ, List.getElem_toArray, List.getElem_cons_succ, List.getElem_cons_zero]
              refine wpAnyH_done (by kernel_rfl) ?_ _
              clear hHeld
              (try go_wp2_with fail)
              go_meet
              exact ⟨by rw [HE1.out]; rfl, (below_drewT (Below.refl _ _)).trans b5⟩
            | true =>
              refine wp_region_held_drew (S := (fun w' => w'.cell? ⟨D, 0, none⟩ = some (.string y))) (by kernel_rfl) (by exact d0) (fun hHeld => ?_)
              refine wpAnyH_take (i := 0) (v := ?_) rfl (by kernel_rfl) (by kernel_rfl) (by kernel_rfl) (fun _ _ _ h => h) (Or.inl ⟨by rfl, ?_⟩) (by assumption) ?_
              rotate_left
              · intro w hSw
                go_simp
                try rfl
              simp only [Act.put, List.setIfInBounds_toArray, List.set_cons_zero, List.set_cons_succ, List.getElem_toArray, List.getElem_cons_succ, List.getElem_cons_zero]
              refine wpAnyH_take (i := 1) (v := ?_) rfl (by kernel_rfl) (by kernel_rfl) (by kernel_rfl) (fun _ _ _ h => h) (Or.inl ⟨by rfl, ?_⟩) (by assumption) ?_
              rotate_left
              · intro w hSw
                go_simp
                try rfl
              simp only [Act.put, List.setIfInBounds_toArray, List.set_cons_zero, List.set_cons_succ, List.getElem_toArray, List.getElem_cons_succ, List.getElem_cons_zero]
              refine wpAnyH_take (i := 2) (v := ?_) rfl (by kernel_rfl) (by kernel_rfl) (by kernel_rfl) (fun _ _ _ h => h) (Or.inl ⟨by rfl, ?_⟩) (by assumption) ?_
              rotate_left
              · intro w hSw
                go_simp
                try rfl
              simp only [Act.put, List.setIfInBounds_toArray, List.set_cons_zero, List.set_cons_succ, List.getElem_toArray, List.getElem_cons_succ, List.getElem_cons_zero]
              refine wpAnyH_take (i := 3) (v := ?_) rfl (by kernel_rfl) (by kernel_rfl) (by kernel_rfl) (fun _ _ _ h => h) (Or.inl ⟨by rfl, ?_⟩) (by assumption) ?_
              rotate_left
              · intro w hSw
                go_simp
                try rfl
              simp only [Act.put, List.setIfInBounds_toArray, List.set_cons_zero, List.set_cons_succ, List.getElem_toArray, List.getElem_cons_succ, List.getElem_cons_zero]
              refine wpAnyH_take (i := 5) (v := ?_) rfl (by kernel_rfl) (by kernel_rfl) (by kernel_rfl) (fun _ _ _ h => h) (Or.inl ⟨by rfl, ?_⟩) (by assumption) ?_
              rotate_left
              · intro w hSw
                go_simp
                try rfl
              simp only [Act.put, List.setIfInBounds_toArray, List.set_cons_zero, List.set_cons_succ, List.getElem_toArray, List.getElem_cons_succ, List.getElem_cons_zero]
              refine wpAnyH_take (i := 6) (v := ?_) rfl (by kernel_rfl) (by kernel_rfl) (by kernel_rfl) (fun _ _ _ h => h) (Or.inl ⟨by rfl, ?_⟩) (by assumption) ?_
              rotate_left
              · intro w hSw
                go_simp
                try rfl
              simp only [Act.put, List.setIfInBounds_toArray, List.set_cons_zero, List.set_cons_succ, List.getElem_toArray, List.getElem_cons_succ, List.getElem_cons_zero]
              refine wpAnyH_ready (rs := [4]) (by kernel_rfl) (by simp) ?_
              refine AllReadyH.cons rfl (fun K9 hK => ?_) AllReadyH.nil
              go_simp
              go_at_call 61
              refine (rattrd _).mono ?_
              rintro e w5 ⟨rfl, b5, hin5⟩
              have hd5 := (hBel _ b5)
              try go_wp2_with fail
              refine hK.out _ _ (by exact hd5) (fun hHeld => ?_)
              clear hK K9
              try simp only [Act.put, List.setIfInBounds_toArray, List.set_cons_zero, List.set_cons_succ, List.getElem_toArray, List.getElem_cons_succ, List.getElem_cons_zero]
              refine wpAnyH_ready (rs := [7]) (by kernel_rfl) (by simp) ?_
              refine AllReadyH.cons rfl (fun K9 hK => ?_) AllReadyH.nil
              go_simp
              go_at_call 43
              refine (hin5 y _ (Below.refl _ _)).mono ?_
              rw [HG2.out]
              rintro e w6 ⟨rfl, rfl⟩
              try go_wp2_with fail
              refine hK.out _ _ (by exact hd5) (fun hHeld => ?_)
              clear hK K9
              try simp only [Act.put, List.setIfInBounds_toArray, List.set_cons_zero, List.set_cons_succ, List.getElem_toArray, List.getElem_cons_succ, List.getElem_cons_zero]
              refine wpAnyH_take (i := 8) (v := ?_) rfl (by kernel_rfl) (by kernel_rfl) (by kernel_rfl) (fun _ _ _ h => h) (Or.inl ⟨by rfl, ?_⟩) (by assumption) ?_
              rotate_left
              · intro w hSw
                go_simp
                try rfl
              simp only [Act.put, List.setIfInBounds_toArray, List.set_cons_zero, List.set_cons_succ, List.getElem_toArray, List.getElem_cons_succ, List.getElem_cons_zero]
              refine wpAnyH_take (i := 9) (v := ?_) rfl (by kernel_rfl) (by kernel_rfl) (by kernel_rfl) (fun _ _ _ h => h) (Or.inl ⟨by rfl, ?_⟩) (by assumption) ?_
              rotate_left
              · intro w hSw
                go_simp
                try rfl
              simp only [Act.put, List.setIfInBounds_toArray, List.set_cons_zero, List.set_cons_succ, List.getElem_toArray, List.getElem_cons_succ, List.getElem_cons_zero]
              refine wpAnyH_take (i := 10) (v := ?_) rfl (by kernel_rfl) (by kernel_rfl) (by kernel_rfl) (fun _ _ _ h => h) (Or.inl ⟨by rfl, ?_⟩) (by assumption) ?_
              rotate_left
              · intro w hSw
                go_simp
                try rfl
              simp only [Act.put, List.setIfInBounds_toArray, List.set_cons_zero, List.set_cons_succ, List.getElem_toArray, List.getElem_cons_succ, List.getElem_cons_zero]
              refine wpAnyH_take (i := 11) (v := ?_) rfl (by kernel_rfl) (by kernel_rfl) (by kernel_rfl) (fun _ _ _ h => h) (Or.inl ⟨by rfl, ?_⟩) (by assumption) ?_
              rotate_left
              · intro w hSw
                go_simp
                try rfl
              simp only [Act.put, List.setIfInBounds_toArray, List.set_cons_zero, List.set_cons_succ, List.getElem_toArray, List.getElem_cons_succ, List.getElem_cons_zero]
              refine wpAnyH_take (i := 12) (v := ?_) rfl (by kernel_rfl) (by kernel_rfl) (by kernel_rfl) (fun _ _ _ h => h) (Or.inl ⟨by rfl, ?_⟩) (by assumption) ?_
              rotate_left
              · intro w hSw
                go_simp
                try rfl
              simp only [Act.put, List.setIfInBounds_toArray, List.set_cons_zero, List.set_cons_succ, List.getElem_toArray, List.getElem_cons_succ, List.getElem_cons_zero]
              refine wpAnyH_take (i := 13) (v := ?_) rfl (by kernel_rfl) (by kernel_rfl) (by kernel_rfl) (fun _ _ _ h => h) (Or.inl ⟨by rfl, ?_⟩) (by assumption) ?_
              rotate_left
              · intro w hSw
                go_simp
                try rfl
              simp only [Act.put, List.setIfInBounds_toArray, List.set_cons_zero, List.set_cons_succ, List.getElem_toArray, List.getElem_cons_succ, List.getElem_cons_zero]
              refine wpAnyH_take (i := 14) (v := ?_) rfl (by kernel_rfl) (by kernel_rfl) (by kernel_rfl) (fun _ _ _ h => h) (Or.inl ⟨by rfl, ?_⟩) (by assumption) ?_
              rotate_left
              · intro w hSw
                go_simp
                try rfl
              simp only [Act.put, List.setIfInBounds_toArray, List.set_cons_zero, List.set_cons_succ, List.getElem_toArray, List.getElem_cons_succ, List.getElem_cons_zero]
              refine wpAnyH_take (i := 15) (v := ?_) rfl (by kernel_rfl) (by kernel_rfl) (by kernel_rfl) (fun _ _ _ h => h) (Or.inl ⟨by rfl, ?_⟩) (by assumption) ?_
              rotate_left
              · intro w hSw
                go_simp
                try rfl
              simp only [Act.put, List.setIfInBounds_toArray, List.set_cons_zero, List.set_cons_succ, List.getElem_toArray, List.getElem_cons_succ, List.getElem_cons_zero]
              refine wpAnyH_take (i := 16) (v := ?_) rfl (by kernel_rfl) (by kernel_rfl) (by kernel_rfl) (fun _ _ _ h => h) (Or.inl ⟨by rfl, ?_⟩) (by assumption) ?_
              rotate_left
              · intro w hSw
                go_simp
                try rfl
              simp only [Act.put, List.setIfInBounds_toArray, List.set_cons_zero, List.set_cons_succ, List.getElem_toArray, List.getElem_cons_succ, List.getElem_cons_zero]
              refine wpAnyH_ready (rs := [17]) (by kernel_rfl) (by simp) ?_
              refine AllReadyH.cons rfl (fun K9 hK => ?_) AllReadyH.nil
              go_simp
              go_at_call 40
              refine (HBQ.out _).mono ?_
              rintro e w7 ⟨rfl, rfl⟩
              try go_wp2_with fail
              refine hK.out _ _ (by exact hd5) (fun hHeld => ?_)
              clear hK K9
              try simp only [Act.put, List.setIfInBounds_toArray, List.set_cons_zero, List.set_cons_succ, List.getElem_toArray, List.getElem_cons_succ, List.getElem_cons_zero]
              refine wpAnyH_take (i := 18) (v := ?_) rfl (by kernel_rfl) (by kernel_rfl) (by kernel_rfl) (fun _ _ _ h => h) (Or.inl ⟨by rfl, ?_⟩) (by assumption) ?_
              rotate_left
              · intro w hSw
                go_simp
                try rfl
              simp only [Act.put, List.setIfInBounds_toArray, List.set_cons_zero, List.set_cons_succ, List.getElem_toArray, List.getElem_cons_succ, List.getElem_cons_zero]
              refine wpAnyH_take (i := 19) (v := ?_) rfl (by kernel_rfl) (by kernel_rfl) (by kernel_rfl) (fun _ _ _ h => h) (Or.inl ⟨by rfl, ?_⟩) (by assumption) ?_
              rotate_left
              · intro w hSw
                go_simp
                try rfl
              simp only [Act.put, List.setIfInBounds_toArray, List.set_cons_zero, List.set_cons_succ, List.getElem_toArray, List.getElem_cons_succ, List.getElem_cons_zero]
              refine wpAnyH_done (by kernel_rfl) ?_ _
              clear hHeld
              (try go_wp2_with fail)
              go_meet
              exact ⟨by rw [HE1.out]; rfl, (below_drewT (Below.refl _ _)).trans b5⟩
        case rest =>
        obtain ⟨rfl, hb10⟩ := hcut
        have hbe : ((b1 || !b2) || !bq) = ((decide (j1 = j) || !isAttr N2) || !bq) := by rw [HG1.out, ← HYD.out, HG2.out]
        have HM10 := Lib.hid (HM9.out.bel hb10)
        have HD10 := Lib.hid (HD9.out.below hb10 HD9.out.lt)
        clear hb10 HM9 HD9 d0 hBel HBQ HG1 HG2
        have HBE := Lib.hid hbe
        clear hbe
        cases hB : ((b1 || !b2) || !bq) with
        | true =>
          have HV : Hid (R = none) := by show _ = _; rw [HV0.out]; exact P1.out az H62.out (by rw [HEQ.out, ← HBE.out]; exact hB)
          clear hB P1 P2 P3 P4 P5
          have hT8 := HM10.out.t
          have hK8 := HM10.out.k
          have hO8 := HM10.out.o
          have r0 := hT8.cell 0
          have f0 := hT8.frozen 0
          have r1 := hT8.cell 1
          have f1 := hT8.frozen 1
          have r2 := hT8.cell 2
          have f2 := hT8.frozen 2
          have r3 := hT8.cell 3
          have f3 := hT8.frozen 3
          have r4 := hT8.cell 4
          have f4 := hT8.frozen 4
          have r5 := hT8.cell 5
          have f5 := hT8.frozen 5
          have k0c := hK8.cell 0
          have k1c := hK8.cell 1
          have k2c := hK8.cell 2
          have k3c := hK8.cell 3
          have k4c := hK8.cell 4
          have k5c := hK8.cell 5
          go_wp2_with fail
          have hF := ((((((hT8.set_ 0 (.int .u8 111)).set_ 1 (.string x)).set_ 2 (.string ⟨#[]⟩)).set_ 3 (.slice o6 az.length c6)).set_ 4 (.int .i64 k)).set_ 5 (.int .i64 0))
          have s0 : (World.setCell _ _ _).cell? _ = some (.int .u8 111) := hF.cell 0
          have s1 : (World.setCell _ _ _).cell? _ = some (.string x) := hF.cell 1
          have s2 : (World.setCell _ _ _).cell? _ = some (.string ⟨#[]⟩) := hF.cell 2
          have s3 : (World.setCell _ _ _).cell? _ = some (.slice o6 az.length c6) := hF.cell 3
          have s4 : (World.setCell _ _ _).cell? _ = some (.int .i64 k) := hF.cell 4
          have s5 : (World.setCell _ _ _).cell? _ = some (.int .i64 0) := hF.cell 5
          exact bodyPost_ret (v := .tuple #[.agg #[.int .u8 111, .string x, .string ⟨#[]⟩, .slice o6 az.length c6, .int .i64 k, .int .i64 0], .bool false]) (by simp [results, Try.f41, go_sem, s0, s1, s2, s3, s4, s5]) rfl ⟨by rw [HV.out]; exact ⟨_, _, _, _, _, _, _, _, rfl⟩, ((((((hO8.setCell (p := ⟨w.heap.size, 0, none⟩) (Nat.le_refl _) _).setCell (p := ⟨w.heap.size, 1, none⟩) (Nat.le_refl _) _).setCell (p := ⟨w.heap.size, 2, none⟩) (Nat.le_refl _) _).setCell (p := ⟨w.heap.size, 3, none⟩) (Nat.le_refl _) _).setCell (p := ⟨w.heap.size, 4, none⟩) (Nat.le_refl _) _).setCell (p := ⟨w.heap.size, 5, none⟩) (Nat.le_refl _) _)⟩
        | false =>
          have HBF := Lib.hid hB
          have hq : bq = true := by
            cases bq with
            | true => rfl
            | false => simp at hB
          have hj22 : j2 + 2 ≤ s.size := by
            rcases atS_len (HEQ.out.trans hq) with h | h
            · rw [sz_len]; exact h
            · cases h
          clear hB hq
          have HALF := Lib.hid hj22
          go_wp2_with fail
          go_loopw [9] (fun z wr => ∃ i : Nat, z = .int .i64 i ∧ i ≤ az.length ∧ (∀ (q : Nat) (b : Att), q < i → az[q]? = some b → decide (b.name = N2) = false) ∧ Below wc.heap.size wc wr) (fun z _ => az.length - (intOf z).toNat)
          case atStart => exact ⟨0, rfl, Nat.zero_le _, fun q b hq => by omega, Below.refl _ _⟩
          case round =>
            obtain ⟨wi, rfl⟩ : ∃ wi, wi = wr := ⟨_, rfl⟩
            obtain ⟨i, rfl, hi, hsn, hbi⟩ := hrel
            have HSN := Lib.hid hsn
            have HM15 := Lib.hid (HM10.out.bel hbi)
            have HD15 := Lib.hid (HD10.out.below hbi HD10.out.lt)
            have HBI := Lib.hid hbi
            clear hsn hbi
            have t3 := HM15.out.k.cell 3
            have d0 := HD15.out.cell 0
            by_cases hil : i < az.length
            · obtain ⟨b, hai⟩ : ∃ b, az[i]? = some b := ⟨_, List.getElem?_eq_getElem hil⟩
              obtain ⟨ga, oa, capa, ea, fa, hva, hgal, q0, _, _, _, _⟩ := att_at (RowG.own HM15.out.ow (ok := fun _ => True) (fun _ _ _ => trivial)) HM15.out.at_ hai (Below.refl _ _)
              simp only [Value.slice.injEq] at hva
              obtain ⟨rfl, _, hcc⟩ := hva
              clear hcc
              have hse := str_eqT b.name N2
              rw [HYE.out] at hse
              obtain ⟨bb, hbb⟩ : ∃ bb, decide (b.name = N2) = bb := ⟨_, rfl⟩
              rw [hbb] at hse
              have HBB := Lib.hid hbb
              have HAI := Lib.hid hai
              generalize strOf b.name = nb at *
              have HC : Hid (wi.cell? ⟨T, 3, none⟩ = some (.slice (some ⟨ga, oa, none⟩) az.length c6) ∧ wi.cell? ⟨ga, oa + i * 4, none⟩ = some (.string nb) ∧ wi.cell? ⟨D, 0, none⟩ = some (.string y)) := ⟨t3, q0, d0⟩
              clear hbb hai q0
              cases bb
              · go_upto_region 15 with fail
                go_region_held3 (fun w' => w'.cell? ⟨T, 3, none⟩ = some (.slice (some ⟨ga, oa, none⟩) az.length c6) ∧ w'.cell? ⟨ga, oa + i * 4, none⟩ = some (.string nb) ∧ w'.cell? ⟨D, 0, none⟩ = some (.string y)) (exact HC.out) (fail)
                go_wp2_with fail
                go_roundw
                case rel =>
                  refine ⟨i + 1, by go_num, hil, fun q b' hq h => ?_, below_drewT HBI.out⟩
                  rcases Nat.lt_or_ge q i with h2 | h2
                  · exact HSN.out q b' h2 h
                  · obtain rfl : q = i := by omega
                    rw [HAI.out] at h; cases h; exact HBB.out
                case measure => simp [intOf]; omega
              · have HV : Hid (R = none) := by show _ = _; rw [HV0.out]; exact P2.out az H62.out i b HAI.out HBB.out
                go_upto_region 15 with fail
                go_region_held3 (fun w' => w'.cell? ⟨T, 3, none⟩ = some (.slice (some ⟨ga, oa, none⟩) az.length c6) ∧ w'.cell? ⟨ga, oa + i * 4, none⟩ = some (.string nb) ∧ w'.cell? ⟨D, 0, none⟩ = some (.string y)) (exact HC.out) (fail)
                have HM16 := Lib.hid HM15.out.drew
                clear HC HM15 HD15 t3 d0
                generalize wi.drew = W16 at *
                have hT8 := HM16.out.t
                have hK8 := HM16.out.k
                have hO8 := HM16.out.o
                have r0 := hT8.cell 0
                have f0 := hT8.frozen 0
                have r1 := hT8.cell 1
                have f1 := hT8.frozen 1
                have r2 := hT8.cell 2
                have f2 := hT8.frozen 2
                have r3 := hT8.cell 3
                have f3 := hT8.frozen 3
                have r4 := hT8.cell 4
                have f4 := hT8.frozen 4
                have r5 := hT8.cell 5
                have f5 := hT8.frozen 5
                have k0c := hK8.cell 0
                have k1c := hK8.cell 1
                have k2c := hK8.cell 2
                have k3c := hK8.cell 3
                have k4c := hK8.cell 4
                have k5c := hK8.cell 5
                go_wp2_with fail
                have hF := ((((((hT8.set_ 0 (.int .u8 111)).set_ 1 (.string x)).set_ 2 (.string ⟨#[]⟩)).set_ 3 (.slice (some ⟨ga, oa, none⟩) az.length c6)).set_ 4 (.int .i64 k)).set_ 5 (.int .i64 0))
                have s0 : (World.setCell _ _ _).cell? _ = some (.int .u8 111) := hF.cell 0
                have s1 : (World.setCell _ _ _).cell? _ = some (.string x) := hF.cell 1
                have s2 : (World.setCell _ _ _).cell? _ = some (.string ⟨#[]⟩) := hF.cell 2
                have s3 : (World.setCell _ _ _).cell? _ = some (.slice (some ⟨ga, oa, none⟩) az.length c6) := hF.cell 3
                have s4 : (World.setCell _ _ _).cell? _ = some (.int .i64 k) := hF.cell 4
                have s5 : (World.setCell _ _ _).cell? _ = some (.int .i64 0) := hF.cell 5
                exact bodyPost_ret (v := .tuple #[.agg #[.int .u8 111, .string x, .string ⟨#[]⟩, .slice (some ⟨ga, oa, none⟩) az.length c6, .int .i64 k, .int .i64 0], .bool false]) (by simp [results, Try.f41, go_sem, s0, s1, s2, s3, s4, s5]) rfl ⟨by rw [HV.out]; exact ⟨_, _, _, _, _, _, _, _, rfl⟩, ((((((hO8.setCell (p := ⟨w.heap.size, 0, none⟩) (Nat.le_refl _) _).setCell (p := ⟨w.heap.size, 1, none⟩) (Nat.le_refl _) _).setCell (p := ⟨w.heap.size, 2, none⟩) (Nat.le_refl _) _).setCell (p := ⟨w.heap.size, 3, none⟩) (Nat.le_refl _) _).setCell (p := ⟨w.heap.size, 4, none⟩) (Nat.le_refl _) _).setCell (p := ⟨w.heap.size, 5, none⟩) (Nat.le_refl _) _)⟩
            · have HALL : Hid (∀ (q : Nat) (b : Att), az[q]? = some b → decide (b.name = N2) = false) := fun q b h => HSN.out q b (by have := (List.getElem?_eq_some_iff.1 h).1; omega) h
              have d2 := HD15.out.cell 2
              have e2 := HD15.out.frozen 2
              have HM17 := Lib.hid (HM15.out.far (i := 2) HTD.out HOD.out (.int .i64 ((j1 : Int) + (y.size : Int) + 2)))
              have HD17 : Hid (Blk (wi.setCell ⟨D, 2, none⟩ (.int .i64 ((j1 : Int) + (y.size : Int) + 2))) D 58 #[.string y, .string ⟨#[]⟩, .int .i64 ((j1 : Int) + (y.size : Int) + 2), .int .i64 0]) := HD15.out.set_ 2 _
              go_upto_region 18 with fail
              clear HM15 HD15 HM10 HD10 t3 d0 d2 e2 HSN HBI
              generalize wi.setCell ⟨D, 2, none⟩ (.int .i64 ((j1 : Int) + (y.size : Int) + 2)) = W17 at *
              have d2 := HD17.out.cell 2
              have hF : ((j2 + 2 : Nat) : Int) = (j1 : Int) + (y.size : Int) + 2 := by have := HYZ.out; omega
              cases hsj : sayJ 34 60 (s.data.toList.drop (j2 + 2)) with
              | none =>
                have HSY : Hid (∀ w, Calls Try.prog 39 #[.string s, .int .i64 ((j1 : Int) + (y.size : Int) + 2), .int .u8 34, .int .u8 60] w fun e w' => e = .returned (.tuple #[.string ⟨#[]⟩, .int .i64 0, .bool false]) ∧ Below w.heap.size w w') := fun w => by
                  have h := rsays s (j2 + 2) 34 60 w hj22 hs
                  rw [hsj, hF] at h
                  exact h
                have HV : Hid (R = none) := by show _ = _; rw [HV0.out]; exact P3.out az H62.out hsj
                clear hsj hF
                go_wp2_with fail
                refine (HSY.out _).mono ?_
                rintro e w18 ⟨rfl, b18⟩
                have HM18 := Lib.hid (HM17.out.bel b18)
                clear b18 HM17 HD17 d2
                have hT8 := HM18.out.t
                have hK8 := HM18.out.k
                have hO8 := HM18.out.o
                have r0 := hT8.cell 0
                have f0 := hT8.frozen 0
                have r1 := hT8.cell 1
                have f1 := hT8.frozen 1
                have r2 := hT8.cell 2
                have f2 := hT8.frozen 2
                have r3 := hT8.cell 3
                have f3 := hT8.frozen 3
                have r4 := hT8.cell 4
                have f4 := hT8.frozen 4
                have r5 := hT8.cell 5
                have f5 := hT8.frozen 5
                have k0c := hK8.cell 0
                have k1c := hK8.cell 1
                have k2c := hK8.cell 2
                have k3c := hK8.cell 3
                have k4c := hK8.cell 4
                have k5c := hK8.cell 5
                go_wp2_with fail
                have hF := ((((((hT8.set_ 0 (.int .u8 111)).set_ 1 (.string x)).set_ 2 (.string ⟨#[]⟩)).set_ 3 (.slice o6 az.length c6)).set_ 4 (.int .i64 k)).set_ 5 (.int .i64 0))
                have s0 : (World.setCell _ _ _).cell? _ = some (.int .u8 111) := hF.cell 0
                have s1 : (World.setCell _ _ _).cell? _ = some (.string x) := hF.cell 1
                have s2 : (World.setCell _ _ _).cell? _ = some (.string ⟨#[]⟩) := hF.cell 2
                have s3 : (World.setCell _ _ _).cell? _ = some (.slice o6 az.length c6) := hF.cell 3
                have s4 : (World.setCell _ _ _).cell? _ = some (.int .i64 k) := hF.cell 4
                have s5 : (World.setCell _ _ _).cell? _ = some (.int .i64 0) := hF.cell 5
                exact bodyPost_ret (v := .tuple #[.agg #[.int .u8 111, .string x, .string ⟨#[]⟩, .slice o6 az.length c6, .int .i64 k, .int .i64 0], .bool false]) (by simp [results, Try.f41, go_sem, s0, s1, s2, s3, s4, s5]) rfl ⟨by rw [HV.out]; exact ⟨_, _, _, _, _, _, _, _, rfl⟩, ((((((hO8.setCell (p := ⟨w.heap.size, 0, none⟩) (Nat.le_refl _) _).setCell (p := ⟨w.heap.size, 1, none⟩) (Nat.le_refl _) _).setCell (p := ⟨w.heap.size, 2, none⟩) (Nat.le_refl _) _).setCell (p := ⟨w.heap.size, 3, none⟩) (Nat.le_refl _) _).setCell (p := ⟨w.heap.size, 4, none⟩) (Nat.le_refl _) _).setCell (p := ⟨w.heap.size, 5, none⟩) (Nat.le_refl _) _)⟩
              | some p =>
                obtain ⟨v, m⟩ := p
                obtain ⟨E, hE⟩ : ∃ E, j2 + 2 + m = E := ⟨_, rfl⟩
                obtain ⟨vv, hvv⟩ : ∃ vv, strOf v = vv := ⟨_, rfl⟩
                have HSY : Hid (∀ w, Calls Try.prog 39 #[.string s, .int .i64 ((j1 : Int) + (y.size : Int) + 2), .int .u8 34, .int .u8 60] w fun e w' => e = .returned (.tuple #[.string vv, .int .i64 E, .bool true]) ∧ Below w.heap.size w w') := fun w => by
                  have h := rsays s (j2 + 2) 34 60 w hj22 hs
                  rw [hsj, hF] at h
                  unfold rsayV at h
                  dsimp only at h
                  rw [hvv, hE] at h
                  exact h
                have hbd := sayJ_bd 34 60 _ _ (Nat.le_refl _) v m hsj
                rw [List.length_drop] at hbd
                have hEs : E ≤ s.size := by have := hbd.1; have := HL.out; omega
                have hjE : j ≤ E := by omega
                by_cases hEl : E < s.size
                · have HV2 : Hid (R = opnJ s.data.toList (E + 1) (az ++ [⟨N2, v, j2 + 2, E⟩])) := by
                    show _ = _
                    rw [HV0.out, ← hE]
                    exact P5.out az H62.out v m hsj (by rw [← HL.out, hE]; exact hEl) (by rw [HEQ.out, ← HBE.out]; exact HBF.out) HALL.out
                  have HPL : Hid (PlG true (j2 + 2) E (.int .i64 ((j1 : Int) + (y.size : Int) + 2)) (.int .i64 E)) := ⟨_, _, rfl, rfl, fun _ => ⟨hF.symm, rfl⟩⟩
                  have HVV := Lib.hid hvv
                  clear hsj hF hbd hE hvv P1 P2 P3 P4 P5
                  go_wp2_with fail
                  refine (HSY.out _).mono ?_
                  rintro e w18 ⟨rfl, b18⟩
                  have HM18 := HM17.out.bel b18
                  have HD18 := HD17.out.below b18 HD17.out.lt
                  have d1 := HD18.cell 1
                  have e1 := HD18.frozen 1
                  have d3 := HD18.cell 3
                  have e3 := HD18.frozen 3
                  have HM22 := Lib.hid ((HM18.far (i := 1) HTD.out HOD.out (.string vv)).far (i := 3) HTD.out HOD.out (.int .i64 E))
                  have HD22 : Hid (Blk ((w18.setCell ⟨D, 1, none⟩ (.string vv)).setCell ⟨D, 3, none⟩ (.int .i64 E)) D 58 #[.string y, .string vv, .int .i64 ((j1 : Int) + (y.size : Int) + 2), .int .i64 E]) := (HD18.set_ 1 _).set_ 3 _
                  clear b18 HM17 HD17 HM18 HD18 d2 HSY
                  go_upto_region 23 with fail
                  clear d1 e1 d3 e3
                  generalize (w18.setCell ⟨D, 1, none⟩ (.string vv)).setCell ⟨D, 3, none⟩ (.int .i64 E) = W22 at *
                  obtain ⟨i0, hi0, hz0, hz1, hz2⟩ := info_parts infoAR
                  have t3 := HM22.out.k.cell 3
                  have d0 := HD22.out.cell 0
                  have d1 := HD22.out.cell 1
                  have d2 := HD22.out.cell 2
                  have d3 := HD22.out.cell 3
                  have l3 : az.length + 1 ≤ maxLen := by unfold maxLen; omega
                  have l4 : (az.length + 1) * 48 ≤ 140737488355328 := by omega
                  have l5 : T + 1 ≤ (W22.alloc (.cells #[.string y, .string vv, .int .i64 ((j1 : Int) + (y.size : Int) + 2), .int .i64 E] 58)).heap.size := by have := HM22.out.k.lt; simp; omega
                  have hnc := HM22.out.ow.alloc (.cells #[.string y, .string vv, .int .i64 ((j1 : Int) + (y.size : Int) + 2), .int .i64 E] 58)
                  go_wp2_with (at_builtin; refine wpList_append_lies _ rfl _ _ 32 rfl (T + 1) 58 i0 zeroA 4 48 Try.underlying32 hi0 hz0 hz1 hz2 rfl (by decide) (.slice o6 az.length c6) az.length cs rfl hnc ⟨W22.heap.size, 0, none⟩ 1 1 [.string y, .string vv, .int .i64 ((j1 : Int) + (y.size : Int) + 2), .int .i64 E] rfl rfl (cells_newT W22 #[.string y, .string vv, .int .i64 ((j1 : Int) + (y.size : Int) + 2), .int .i64 E] _) (by simp [Value.oneCell']) (by omega) l3 l4 l5 (W22.heap.size + 1) (by simp) ?_; intro g3 cap3 w3 hown3 hgrow3 hfr3 hlt3; have hK3 : Blk w3 T 34 #[.int .u8 111, .string x, .string ⟨#[]⟩, .slice o6 az.length c6, .int .i64 k, .int .i64 0] := (hgrow3.block T (by have := HM22.out.k.lt; simp; omega) (fun h => by have := (HM22.out.ow.lt _ h.symm).1; omega)).trans (HM22.out.k.alloc _); have m3 := hK3.cell 3; have mf := hK3.frozen 3)
                  have hown3' : w3.ownsRow (T + 1) 58 4 (.slice (some ⟨g3, 0, none⟩) (az.length + 1) cap3) (az.length + 1) (cs ++ [.string (strOf N2), .string (strOf v), .int .i64 ((j1 : Int) + (y.size : Int) + 2), .int .i64 E]) := by rw [HYE.out, HVV.out]; exact hown3
                  have HM24 := Lib.hid (HM22.out.att (a := ⟨N2, v, j2 + 2, E⟩) HPL.out hown3' hgrow3)
                  go_roundw
                  case rel => exact ⟨E + 1, az ++ [⟨N2, v, j2 + 2, E⟩], _, _, by go_num, hEl, by rw [List.length_append]; simp; omega, HV2.out, HM24.out⟩
                  case measure => simp [intOf]; omega
                · have HV : Hid (R = none) := by show _ = _; rw [HV0.out]; exact P4.out az H62.out v m hsj (by rw [← HL.out, hE]; omega)
                  clear hsj hF hbd hE hvv P1 P2 P3 P4 P5
                  go_wp2_with fail
                  refine (HSY.out _).mono ?_
                  rintro e w18 ⟨rfl, b18⟩
                  have HM18 := Lib.hid (HM17.out.bel b18)
                  clear b18 HM17 HD17 d2
                  have hT8 := HM18.out.t
                  have hK8 := HM18.out.k
                  have hO8 := HM18.out.o
                  have r0 := hT8.cell 0
                  have f0 := hT8.frozen 0
                  have r1 := hT8.cell 1
                  have f1 := hT8.frozen 1
                  have r2 := hT8.cell 2
                  have f2 := hT8.frozen 2
                  have r3 := hT8.cell 3
                  have f3 := hT8.frozen 3
                  have r4 := hT8.cell 4
                  have f4 := hT8.frozen 4
                  have r5 := hT8.cell 5
                  have f5 := hT8.frozen 5
                  have k0c := hK8.cell 0
                  have k1c := hK8.cell 1
                  have k2c := hK8.cell 2
                  have k3c := hK8.cell 3
                  have k4c := hK8.cell 4
                  have k5c := hK8.cell 5
                  go_wp2_with fail
                  have hF := ((((((hT8.set_ 0 (.int .u8 111)).set_ 1 (.string x)).set_ 2 (.string ⟨#[]⟩)).set_ 3 (.slice o6 az.length c6)).set_ 4 (.int .i64 k)).set_ 5 (.int .i64 0))
                  have s0 : (World.setCell _ _ _).cell? _ = some (.int .u8 111) := hF.cell 0
                  have s1 : (World.setCell _ _ _).cell? _ = some (.string x) := hF.cell 1
                  have s2 : (World.setCell _ _ _).cell? _ = some (.string ⟨#[]⟩) := hF.cell 2
                  have s3 : (World.setCell _ _ _).cell? _ = some (.slice o6 az.length c6) := hF.cell 3
                  have s4 : (World.setCell _ _ _).cell? _ = some (.int .i64 k) := hF.cell 4
                  have s5 : (World.setCell _ _ _).cell? _ = some (.int .i64 0) := hF.cell 5
                  exact bodyPost_ret (v := .tuple #[.agg #[.int .u8 111, .string x, .string ⟨#[]⟩, .slice o6 az.length c6, .int .i64 k, .int .i64 0], .bool false]) (by simp [results, Try.f41, go_sem, s0, s1, s2, s3, s4, s5]) rfl ⟨by rw [HV.out]; exact ⟨_, _, _, _, _, _, _, _, rfl⟩, ((((((hO8.setCell (p := ⟨w.heap.size, 0, none⟩) (Nat.le_refl _) _).setCell (p := ⟨w.heap.size, 1, none⟩) (Nat.le_refl _) _).setCell (p := ⟨w.heap.size, 2, none⟩) (Nat.le_refl _) _).setCell (p := ⟨w.heap.size, 3, none⟩) (Nat.le_refl _) _).setCell (p := ⟨w.heap.size, 4, none⟩) (Nat.le_refl _) _).setCell (p := ⟨w.heap.size, 5, none⟩) (Nat.le_refl _) _)⟩
end Go.Proofs.Ytlogjghbdnaedaa
