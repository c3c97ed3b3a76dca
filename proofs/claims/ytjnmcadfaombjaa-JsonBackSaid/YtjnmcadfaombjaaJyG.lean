/- Walks: the document's whole and Is of a node. -/
import Derived.Test.YtjnmcadfaombjaaJxWx
import Derived.Test.YtjnmcadfaombjaaJxWb
import Derived.Test.YtjnmcadfaombjaaJxG1
import Derived.Test.YtjnmcadfaombjaaJtG4
import Derived.Test.YtjnmcadfaombjaaJuW
import Derived.Test.YtjnmcadfaombjaaQuoF
import Derived.Test.YtjnmcadfaombjaaUtfG
import Derived.Deep.DeepCutAuto
import Derived.Outline
namespace Go.Proofs.Ytjnmcadfaombjaa
open Go.RowKit
set_option linter.unusedVariables false
set_option linter.unusedSimpArgs false
set_option linter.constructorNameAsVariable false
theorem whole_one (q : Nat) (t : List UInt8) (ks : List (List UInt8)) (ns : List Node) (hF : ∀ (j : Nat) (n : Node), ns[j]? = some n → WholeC n) : WholeC (.mk q t ks ns) := by
  by_cases q34 : q = 34
  · exact whole_34 q t ks ns hF q34
  by_cases q48 : q = 48
  · exact whole_48 q t ks ns hF q48
  by_cases q97 : q = 97
  · exact whole_97 q t ks ns hF q97
  exact whole_rest q t ks ns hF q34 q48 q97
mutual
theorem whole_any : ∀ n : Node, WholeC n
  | .mk q t ks ns => whole_one q t ks ns fun j n hj => whole_all ns j n hj
theorem whole_all : ∀ (ns : List Node) (j : Nat) (n : Node), ns[j]? = some n → WholeC n
  | [], j, n, h => by simp at h
  | m :: ns, 0, n, h => by
    have h1 : m = n := by simpa using h
    rw [← h1]; exact whole_any m
  | m :: ns, j + 1, n, h => whole_all ns j n (by simpa using h)
end
set_option maxHeartbeats 2000000 in
theorem risn_any (n : Node) (ok : Nat → Prop) (a b c e : Value) (w : World) (hn : NodeA w ok n (.agg #[a, b, c, e])) (hs : SmallN n) (hz : sizeN n ≤ 100000) :
    Calls Try.prog 19 #[.agg #[a, b, c, e]] w fun x w' => x = .returned (.bool (fitsN n 1)) ∧ Below w.heap.size w w' := by
  obtain ⟨u1, u2, u3, u4, u5, u6, u7, u8, rfl, rfl, rfl, rfl⟩ := nodeA_shape hn
  have hb := (Below.refl w.heap.size w).alloc (Nat.le_refl _) (.cells #[.int .u8 u1, .string u2, .slice u3 u4 u5, .slice u6 u7 u8] 44)
  have HB := Lib.hid hb
  have hn0 := nodeA_below hn hb
  have HN0 := Lib.hid hn0
  have HX0 := Lib.hid (Blk.new w 44 #[.int .u8 u1, .string u2, .slice u3 u4 u5, .slice u6 u7 u8])
  have HW := Lib.hid (whole_any n ok _ _ _ _ _ hn0 hs)
  have HD : Hid (∀ w2, NodeA w2 ok n (.agg #[.int .u8 u1, .string u2, .slice u3 u4 u5, .slice u6 u7 u8]) → Calls Try.prog 30 #[.agg #[.int .u8 u1, .string u2, .slice u3 u4 u5, .slice u6 u7 u8]] w2 fun e w' => e = .returned (.int .i64 (deepN n)) ∧ Below w2.heap.size w2 w') :=
    fun w2 h2 => rdeepA_any 100000 n ok _ w2 hz (by omega) h2
  have HV : Hid (fitsN n 1 = (wholeN n && decide (deepN n ≤ 32))) := by
    show _ = _
    rw [fits_whole]; congr 1; exact decide_eq_decide.2 (by omega)
  have hdd : decide (deepN n ≤ 32) = decide ((deepN n : Int) ≤ 32) := decide_eq_decide.2 (by omega)
  rw [hdd] at HV
  clear hn hb hn0 hdd hs hz
  generalize wholeN n = r at *
  go_enter Try.func19, Try.ntmps19
  go_upto_region 1 with fail
  generalize w.alloc (.cells #[.int .u8 u1, .string u2, .slice u3 u4 u5, .slice u6 u7 u8] 44) = W0 at *
  have n0 := HX0.out.cell 0
  have n1 := HX0.out.cell 1
  have n2 := HX0.out.cell 2
  have n3 := HX0.out.cell 3
  cases r
  · clear HD
    go_wp2_with fail
    refine HW.out.mono ?_
    rintro x w2 ⟨rfl, b2⟩
    go_wp2_with fail
    go_ret
    exact ⟨by rw [HV.out]; rfl, HB.out.trans (b2.mono HB.out.size)⟩
  · go_wp2_with fail
    refine HW.out.mono ?_
    rintro x w2 ⟨rfl, b2⟩
    have HX2 := Lib.hid (HX0.out.below b2 HX0.out.lt)
    have HD2 := Lib.hid (HD.out w2 (nodeA_below HN0.out b2))
    have HB2 := Lib.hid (HB.out.trans (b2.mono HB.out.size))
    clear n0 n1 n2 n3 HX0 HD HN0 HW HB b2
    have n0 := HX2.out.cell 0
    have n1 := HX2.out.cell 1
    have n2 := HX2.out.cell 2
    have n3 := HX2.out.cell 3
    go_wp2_with fail
    refine HD2.out.mono ?_
    rintro x w3 ⟨rfl, b3⟩
    go_wp2_with fail
    go_ret
    exact ⟨by rw [HV.out, Bool.true_and]; try rfl, HB2.out.trans (b3.mono HB2.out.size)⟩
end Go.Proofs.Ytjnmcadfaombjaa

/- Walks: the law JsonSames (chapter 10). -/
namespace Go.Proofs.Ytjnmcadfaombjaa
open Go.RowKit
set_option linter.unusedVariables false
set_option linter.unusedSimpArgs false
set_option linter.constructorNameAsVariable false
/-- What light says of a node, in two cases. -/
theorem light_said (n : Node) : (Hid (∀ (ok : Nat → Prop) (a b c e : Value) (w : World), NodeA w ok n (.agg #[a, b, c, e]) → Calls Try.prog 18 #[.agg #[a, b, c, e], .int .i64 60, .int .i64 40] w fun x w' => x = .returned (.tuple #[.int .i64 0, .bool false]) ∧ Below w.heap.size w w')) ∨
    ∃ r : Nat, SmallN n ∧ sizeN n ≤ 60 ∧ lightN n 60 40 = some r ∧ Hid (∀ (ok : Nat → Prop) (a b c e : Value) (w : World), NodeA w ok n (.agg #[a, b, c, e]) → Calls Try.prog 18 #[.agg #[a, b, c, e], .int .i64 60, .int .i64 40] w fun x w' => x = .returned (.tuple #[.int .i64 r, .bool true]) ∧ Below w.heap.size w w') := by
  cases hl : lightN n 60 40 with
  | none =>
    refine .inl (fun ok a b c e w hn => ?_)
    have h := light_any n 60 40 ok a b c e w (by omega) (by omega) hn
    rw [hl] at h
    exact h
  | some r =>
    obtain ⟨h1, h2, h3⟩ := lightN_small n 60 40 r hl
    refine .inr ⟨r, h1, by omega, rfl, fun ok a b c e w hn => ?_⟩
    have h := light_any n 60 40 ok a b c e w (by omega) (by omega) hn
    rw [hl] at h
    exact h
theorem jsame_self (n : Node) (ok ok' : Nat → Prop) (a0 a1 a2 a3 b0 b1 b2 b3 : Value) (w : World) (ha : NodeA w ok n (.agg #[a0, a1, a2, a3])) (hb : NodeA w ok' n (.agg #[b0, b1, b2, b3])) (hs : SmallN n) :
    Calls Try.prog 22 #[.agg #[a0, a1, a2, a3], .agg #[b0, b1, b2, b3]] w fun e w' => e = .returned (.bool true) ∧ Below w.heap.size w w' := by
  have h := jsame_any n n ok ok' _ _ _ _ _ _ _ _ w ha hb hs hs
  rw [sameN_self] at h
  exact h
set_option maxRecDepth 100000 in
set_option maxHeartbeats 16000000 in
theorem lawSames (n m : Node) (a0 a1 a2 a3 b0 b1 b2 b3 : Value) (w : World) (ha : NodeA w (fun _ => True) n (.agg #[a0, a1, a2, a3])) (hb : NodeA w (fun _ => True) m (.agg #[b0, b1, b2, b3])) :
    Calls Try.prog 7 #[.agg #[a0, a1, a2, a3], .agg #[b0, b1, b2, b3]] w fun e w' => e = .returned (.bool true) ∧ Below w.heap.size w w' := by
  obtain ⟨v1, v2, v3, v4, v5, v6, v7, v8, rfl, rfl, rfl, rfl⟩ := nodeA_shape ha
  obtain ⟨u1, u2, u3, u4, u5, u6, u7, u8, rfl, rfl, rfl, rfl⟩ := nodeA_shape hb
  have hb1 := (Below.refl w.heap.size w).alloc (Nat.le_refl _) (.cells #[.int .u8 v1, .string v2, .slice v3 v4 v5, .slice v6 v7 v8] 44)
  have hb2 := hb1.alloc hb1.size (.cells #[.int .u8 u1, .string u2, .slice u3 u4 u5, .slice u6 u7 u8] 44)
  have HX := Lib.hid ((Blk.new w 44 #[.int .u8 v1, .string v2, .slice v3 v4 v5, .slice v6 v7 v8]).alloc (.cells #[.int .u8 u1, .string u2, .slice u3 u4 u5, .slice u6 u7 u8] 44))
  have HY := Lib.hid (Blk.new (w.alloc (.cells #[.int .u8 v1, .string v2, .slice v3 v4 v5, .slice v6 v7 v8] 44)) 44 #[.int .u8 u1, .string u2, .slice u3 u4 u5, .slice u6 u7 u8])
  rw [show (w.alloc (.cells #[.int .u8 v1, .string v2, .slice v3 v4 v5, .slice v6 v7 v8] 44)).heap.size = w.heap.size + 1 by simp] at HY
  have NA := Lib.hid (nodeA_below ha hb2)
  have NB := Lib.hid (nodeA_below hb hb2)
  have HB := Lib.hid hb2
  have HAW := Lib.hid awake10_any
  clear ha hb hb1 hb2
  go_enter Try.func7, Try.ntmps7
  go_upto_region 1 with fail
  generalize hW : (w.alloc (.cells #[.int .u8 v1, .string v2, .slice v3 v4 v5, .slice v6 v7 v8] 44)).alloc (.cells #[.int .u8 u1, .string u2, .slice u3 u4 u5, .slice u6 u7 u8] 44) = W0 at *
  clear hW
  have hx0 := HX.out.cell 0
  have hx1 := HX.out.cell 1
  have hx2 := HX.out.cell 2
  have hx3 := HX.out.cell 3
  rcases light_said n with HL | ⟨r, hsn, hz, _, HL⟩
  · go_wp2_with fail
    refine (HL.out _ _ _ _ _ _ NA.out).mono ?_
    rintro e w3 ⟨rfl, q⟩
    have HB3 := Lib.hid (HB.out.trans (q.mono HB.out.size))
    clear q hx0 hx1 hx2 hx3
    go_wp2_with fail
    refine (HAW.out _).mono ?_
    rintro e w4 ⟨rfl, q⟩
    go_wp2_with fail
    go_ret
    exact ⟨rfl, HB3.out.trans (q.mono HB3.out.size)⟩
  have HSN := Lib.hid hsn
  have HZ : Hid (sizeN n ≤ 100000) := by show _ ≤ _; omega
  clear hsn hz
  go_wp2_with fail
  refine (HL.out _ _ _ _ _ _ NA.out).mono ?_
  rintro e w3 ⟨rfl, q⟩
  have HB3 := Lib.hid (HB.out.trans (q.mono HB.out.size))
  have NA3 := Lib.hid (nodeA_below NA.out q)
  have NB3 := Lib.hid (nodeA_below NB.out q)
  have HX3 := Lib.hid (HX.out.below q HX.out.lt)
  have HY3 := Lib.hid (HY.out.below q HY.out.lt)
  clear q hx0 hx1 hx2 hx3 HX HY NA NB HB HL
  go_upto_region 4 with fail
  have hy0 := HY3.out.cell 0
  have hy1 := HY3.out.cell 1
  have hy2 := HY3.out.cell 2
  have hy3 := HY3.out.cell 3
  rcases light_said m with HL | ⟨r2, hsm, _, _, HL⟩
  · go_wp2_with fail
    refine (HL.out _ _ _ _ _ _ NB3.out).mono ?_
    rintro e w4 ⟨rfl, q⟩
    have HB4 := Lib.hid (HB3.out.trans (q.mono HB3.out.size))
    clear q hy0 hy1 hy2 hy3
    go_wp2_with fail
    refine (HAW.out _).mono ?_
    rintro e w5 ⟨rfl, q⟩
    go_wp2_with fail
    go_ret
    exact ⟨rfl, HB4.out.trans (q.mono HB4.out.size)⟩
  have HSM := Lib.hid hsm
  clear hsm
  go_wp2_with fail
  refine (HL.out _ _ _ _ _ _ NB3.out).mono ?_
  rintro e w4 ⟨rfl, q⟩
  have HB4 := Lib.hid (HB3.out.trans (q.mono HB3.out.size))
  have NA4 := nodeA_drew (nodeA_below NA3.out q)
  have NB4 := nodeA_drew (nodeA_below NB3.out q)
  have HX4 := HX3.out.below q HX3.out.lt
  have HY4 := HY3.out.below q HY3.out.lt
  clear q hy0 hy1 hy2 hy3 HX3 HY3 NA3 NB3 HB3 HL
  go_upto_region 7 with fail
  have K1 : w4.drew.cell? ⟨w.heap.size, 0, none⟩ = some (.int .u8 v1) ∧ w4.drew.cell? ⟨w.heap.size, 1, none⟩ = some (.string v2) ∧ w4.drew.cell? ⟨w.heap.size, 2, none⟩ = some (.slice v3 v4 v5) ∧ w4.drew.cell? ⟨w.heap.size, 3, none⟩ = some (.slice v6 v7 v8) ∧ w4.drew.cell? ⟨w.heap.size + 1, 0, none⟩ = some (.int .u8 u1) ∧ w4.drew.cell? ⟨w.heap.size + 1, 1, none⟩ = some (.string u2) ∧ w4.drew.cell? ⟨w.heap.size + 1, 2, none⟩ = some (.slice u3 u4 u5) ∧ w4.drew.cell? ⟨w.heap.size + 1, 3, none⟩ = some (.slice u6 u7 u8) := ⟨HX4.cell 0, HX4.cell 1, HX4.cell 2, HX4.cell 3, HY4.cell 0, HY4.cell 1, HY4.cell 2, HY4.cell 3⟩
  have HK2 : Hid (∀ w', Below w4.drew.heap.size w4.drew w' → w'.cell? ⟨w.heap.size, 0, none⟩ = some (.int .u8 v1) ∧ w'.cell? ⟨w.heap.size, 1, none⟩ = some (.string v2) ∧ w'.cell? ⟨w.heap.size, 2, none⟩ = some (.slice v3 v4 v5) ∧ w'.cell? ⟨w.heap.size, 3, none⟩ = some (.slice v6 v7 v8) ∧ w'.cell? ⟨w.heap.size + 1, 0, none⟩ = some (.int .u8 u1) ∧ w'.cell? ⟨w.heap.size + 1, 1, none⟩ = some (.string u2) ∧ w'.cell? ⟨w.heap.size + 1, 2, none⟩ = some (.slice u3 u4 u5) ∧ w'.cell? ⟨w.heap.size + 1, 3, none⟩ = some (.slice u6 u7 u8)) := by
    intro w' h
    have h2 := below_drewS h
    have h3 := HX4.below h2 HX4.lt
    have h4 := HY4.below h2 HY4.lt
    exact ⟨h3.cell 0, h3.cell 1, h3.cell 2, h3.cell 3, h4.cell 0, h4.cell 1, h4.cell 2, h4.cell 3⟩
  have MA : Hid (∀ (ok : Nat → Prop) (a b c e : Value) (w : World), NodeA w ok n (.agg #[a, b, c, e]) → Calls Try.prog 20 #[.agg #[a, b, c, e]] w fun x w' => (∃ a' b' c' e', x = .returned (.agg #[a', b', c', e']) ∧ NodeA w' (fun g => (ok g ∧ g < w.heap.size) ∨ w.heap.size ≤ g) n (.agg #[a', b', c', e'])) ∧ Below w.heap.size w w') :=
    fun ok a b c e w h => mine_any n ok a b c e w h HSN.out
  have MB : Hid (∀ (ok : Nat → Prop) (a b c e : Value) (w : World), NodeA w ok m (.agg #[a, b, c, e]) → Calls Try.prog 20 #[.agg #[a, b, c, e]] w fun x w' => (∃ a' b' c' e', x = .returned (.agg #[a', b', c', e']) ∧ NodeA w' (fun g => (ok g ∧ g < w.heap.size) ∨ w.heap.size ≤ g) m (.agg #[a', b', c', e'])) ∧ Below w.heap.size w w') :=
    fun ok a b c e w h => mine_any m ok a b c e w h HSM.out
  have RS : Hid (∀ ok ok' a0 a1 a2 a3 b0 b1 b2 b3 w, NodeA w ok n (.agg #[a0, a1, a2, a3]) → NodeA w ok' m (.agg #[b0, b1, b2, b3]) → Calls Try.prog 15 #[.agg #[a0, a1, a2, a3], .agg #[b0, b1, b2, b3]] w fun e w' => e = .returned (.bool (sameN n m)) ∧ Below w.heap.size w w') :=
    fun ok ok' a0 a1 a2 a3 b0 b1 b2 b3 w h1 h2 => sameA_any n m ok ok' _ _ _ _ _ _ _ _ w h1 h2 HSN.out HSM.out
  have JS : Hid (∀ ok ok' a0 a1 a2 a3 b0 b1 b2 b3 w, NodeA w ok n (.agg #[a0, a1, a2, a3]) → NodeA w ok' m (.agg #[b0, b1, b2, b3]) → Calls Try.prog 22 #[.agg #[a0, a1, a2, a3], .agg #[b0, b1, b2, b3]] w fun e w' => e = .returned (.bool (sameN n m)) ∧ Below w.heap.size w w') :=
    fun ok ok' a0 a1 a2 a3 b0 b1 b2 b3 w h1 h2 => jsame_any n m ok ok' _ _ _ _ _ _ _ _ w h1 h2 HSN.out HSM.out
  have JA : Hid (∀ ok ok' a0 a1 a2 a3 b0 b1 b2 b3 w, NodeA w ok n (.agg #[a0, a1, a2, a3]) → NodeA w ok' n (.agg #[b0, b1, b2, b3]) → Calls Try.prog 22 #[.agg #[a0, a1, a2, a3], .agg #[b0, b1, b2, b3]] w fun e w' => e = .returned (.bool true) ∧ Below w.heap.size w w') :=
    fun ok ok' a0 a1 a2 a3 b0 b1 b2 b3 w h1 h2 => jsame_self n ok ok' _ _ _ _ _ _ _ _ w h1 h2 HSN.out
  have JI : Hid (∀ ok a b c e w, NodeA w ok n (.agg #[a, b, c, e]) → Calls Try.prog 17 #[.agg #[a, b, c, e]] w fun x w' => x = .returned (.bool (fitsN n 1)) ∧ Below w.heap.size w w') :=
    fun ok a b c e w h => jisA_any n ok a b c e w h HSN.out
  have RI : Hid (∀ ok a b c e w, NodeA w ok n (.agg #[a, b, c, e]) → Calls Try.prog 19 #[.agg #[a, b, c, e]] w fun x w' => x = .returned (.bool (fitsN n 1)) ∧ Below w.heap.size w w') :=
    fun ok a b c e w h => risn_any n ok a b c e w h HSN.out HZ.out
  clear HX4 HY4
  have k := Below.refl w4.drew.heap.size w4.drew
  have na := NA4
  have nb := NB4
  clear NA4 NB4
  obtain ⟨rr, hrr⟩ : ∃ rr, sameN n m = rr := ⟨_, rfl⟩
  obtain ⟨ff, hff⟩ : ∃ ff, fitsN n 1 = ff := ⟨_, rfl⟩
  rw [hrr] at RS JS
  rw [hff] at JI RI
  clear hrr hff
  go_region_held3 (fun w' => w'.cell? ⟨w.heap.size, 0, none⟩ = some (.int .u8 v1) ∧ w'.cell? ⟨w.heap.size, 1, none⟩ = some (.string v2) ∧ w'.cell? ⟨w.heap.size, 2, none⟩ = some (.slice v3 v4 v5) ∧ w'.cell? ⟨w.heap.size, 3, none⟩ = some (.slice v6 v7 v8) ∧ w'.cell? ⟨w.heap.size + 1, 0, none⟩ = some (.int .u8 u1) ∧ w'.cell? ⟨w.heap.size + 1, 1, none⟩ = some (.string u2) ∧ w'.cell? ⟨w.heap.size + 1, 2, none⟩ = some (.slice u3 u4 u5) ∧ w'.cell? ⟨w.heap.size + 1, 3, none⟩ = some (.slice u6 u7 u8)) (first | (with_reducible exact K1) | (exact HK2.out _ k)) (first | (go_at_call 20; (with_reducible refine (MA.out _ _ _ _ _ _ na ).mono ?_); rintro e wq ⟨⟨c1, c2, c3, c4, rfl, hq⟩, q⟩; obtain ⟨z1, z2, z3, z4, z5, z6, z7, z8, rfl, rfl, rfl, rfl⟩ := nodeA_shape hq; have k := k.trans (q.mono k.size); have na := nodeA_below na q; (try (have nb := nodeA_below nb q)); (try (have nA := nodeA_below nA q)); (try (have nB := nodeA_below nB q)); (try (have nC := nodeA_below nC q)); (try (have nD := nodeA_below nD q)); (try (have nE := nodeA_below nE q)); (first | (have hz := nD; clear hz; have nE := hq; clear hq) | (have hz := nC; clear hz; have nD := hq; clear hq) | (have hz := nA; clear hz; have nC := hq; clear hq) | (have nA := hq; clear hq))) | (go_at_call 20; (with_reducible refine (MB.out _ _ _ _ _ _ nb ).mono ?_); rintro e wq ⟨⟨c1, c2, c3, c4, rfl, hq⟩, q⟩; obtain ⟨z1, z2, z3, z4, z5, z6, z7, z8, rfl, rfl, rfl, rfl⟩ := nodeA_shape hq; have k := k.trans (q.mono k.size); have na := nodeA_below na q; (try (have nb := nodeA_below nb q)); (try (have nA := nodeA_below nA q)); (try (have nB := nodeA_below nB q)); (try (have nC := nodeA_below nC q)); (try (have nD := nodeA_below nD q)); (try (have nE := nodeA_below nE q)); have nB := hq; clear hq) | (go_at_call 15; first | (with_reducible refine (RS.out _ _ _ _ _ _ _ _ _ _ _ na nb).mono ?_); rintro e wq ⟨rfl, q⟩; have k := k.trans (q.mono k.size); have na := nodeA_below na q; (try (have nb := nodeA_below nb q)); (try (have nA := nodeA_below nA q)); (try (have nB := nodeA_below nB q)); (try (have nC := nodeA_below nC q)); (try (have nD := nodeA_below nD q)); (try (have nE := nodeA_below nE q))) | (go_at_call 22; (first | (with_reducible refine (JS.out _ _ _ _ _ _ _ _ _ _ _ nA nB).mono ?_) | (with_reducible refine (JA.out _ _ _ _ _ _ _ _ _ _ _ nC nD).mono ?_) | (with_reducible refine (JA.out _ _ _ _ _ _ _ _ _ _ _ nD nC).mono ?_)); rintro e wq ⟨rfl, q⟩; have k := k.trans (q.mono k.size); have na := nodeA_below na q; (try (have nb := nodeA_below nb q)); (try (have nA := nodeA_below nA q)); (try (have nB := nodeA_below nB q)); (try (have nC := nodeA_below nC q)); (try (have nD := nodeA_below nD q)); (try (have nE := nodeA_below nE q))) | (go_at_call 17; first | (with_reducible refine (JI.out _ _ _ _ _ _ nE).mono ?_); rintro e wq ⟨rfl, q⟩; have k := k.trans (q.mono k.size); have na := nodeA_below na q; (try (have nb := nodeA_below nb q)); (try (have nA := nodeA_below nA q)); (try (have nB := nodeA_below nB q)); (try (have nC := nodeA_below nC q)); (try (have nD := nodeA_below nD q)); (try (have nE := nodeA_below nE q))) | (go_at_call 19; first | (with_reducible refine (RI.out _ _ _ _ _ _ na).mono ?_); rintro e wq ⟨rfl, q⟩; have k := k.trans (q.mono k.size); have na := nodeA_below na q; (try (have nb := nodeA_below nb q)); (try (have nA := nodeA_below nA q)); (try (have nB := nodeA_below nB q)); (try (have nC := nodeA_below nC q)); (try (have nD := nodeA_below nD q)); (try (have nE := nodeA_below nE q))) | (go_at_call 12; first | (with_reducible refine (HAW.out _).mono ?_); rintro e wq ⟨rfl, q⟩; have k := k.trans (q.mono k.size); have na := nodeA_below na q; (try (have nb := nodeA_below nb q)); (try (have nA := nodeA_below nA q)); (try (have nB := nodeA_below nB q)); (try (have nC := nodeA_below nC q)); (try (have nD := nodeA_below nD q)); (try (have nE := nodeA_below nE q))))
  go_wp2_with fail
  go_ret
  exact ⟨rfl, HB4.out.trans ((below_drewS k).mono HB4.out.size)⟩
end Go.Proofs.Ytjnmcadfaombjaa

/- Plain: a value among other tokens is the same value (chapters 10, 37). -/
namespace Go.Proofs.Ytjnmcadfaombjaa
set_option linter.unusedVariables false
set_option linter.unusedSimpArgs false
theorem get_ext {pre ts post : List Tok} {j : Nat} (h : j < ts.length) : (pre ++ ts ++ post)[pre.length + j]? = ts[j]? := by
  rw [List.append_assoc, List.getElem?_append_right (by omega), Nat.add_sub_cancel_left, List.getElem?_append_left h]
theorem isK_ext {pre ts post : List Tok} {j c : Nat} (h : j < ts.length) : isK (pre ++ ts ++ post) (pre.length + j) c = isK ts j c := by
  unfold isK; rw [get_ext h]
theorem txt_ext {pre ts post : List Tok} {j : Nat} (h : j < ts.length) : txt (pre ++ ts ++ post) (pre.length + j) = txt ts j := by
  unfold txt; rw [get_ext h]
theorem elems_more {val : Nat → Option (Node × Nat)} {ts : List Tok} {map : Bool} {E : Nat} : ∀ (G m k : Nat) (ks : List (List UInt8)) (ns : List Node) (out : List (List UInt8) × List Node × Nat), elems val ts map E G k ks ns = some out → elems val ts map E (G + m) k ks ns = some out
  | 0, m, k, ks, ns, out, h => by cases h
  | G + 1, m, k, ks, ns, out, h => by
    rw [show G + 1 + m = (G + m) + 1 by omega]
    unfold elems at h ⊢
    split at h
    · cases h
    · rename_i h1
      rw [if_neg h1]
      split at h
      · cases h
      · rename_i n k2 hv
        split at h
        · rename_i h2; rw [if_pos h2]; exact h
        · rename_i h2
          rw [if_neg h2]
          split at h
          · rename_i h3; rw [if_pos h3]; exact elems_more G m _ _ _ _ h
          · cases h
theorem elems_ext {val val' : Nat → Option (Node × Nat)} {pre ts post : List Tok} {map : Bool} {E : Nat} (hv : ∀ k n k2, val k = some (n, k2) → k < k2 ∧ k2 ≤ ts.length ∧ k < ts.length ∧ val' (pre.length + k) = some (n, pre.length + k2)) :
    ∀ (G k : Nat) (ks : List (List UInt8)) (ns : List Node) (ks' : List (List UInt8)) (ns' : List Node) (k' : Nat), elems val ts map E G k ks ns = some (ks', ns', k') → elems val' (pre ++ ts ++ post) map E G (pre.length + k) ks ns = some (ks', ns', pre.length + k')
  | 0, k, ks, ns, ks', ns', k', h => by cases h
  | G + 1, k, ks, ns, ks', ns', k', h => by
    unfold elems at h ⊢
    by_cases hm : map = true ∧ ¬ (isK ts k 34 = true ∧ isK ts (k + 1) 58 = true)
    · rw [if_pos hm] at h; cases h
    rw [if_neg hm] at h
    have hkey : map = true → isK ts k 34 = true ∧ isK ts (k + 1) 58 = true := fun h1 => by
      by_cases h2 : isK ts k 34 = true ∧ isK ts (k + 1) 58 = true
      · exact h2
      · exact absurd ⟨h1, h2⟩ hm
    have hm2 : ¬ (map = true ∧ ¬ (isK (pre ++ ts ++ post) (pre.length + k) 34 = true ∧ isK (pre ++ ts ++ post) (pre.length + k + 1) 58 = true)) := fun x => x.2 (by
      obtain ⟨h1, h2⟩ := hkey x.1
      exact ⟨by rw [isK_ext (isK_lt h1)]; exact h1, by rw [Nat.add_assoc, isK_ext (isK_lt h2)]; exact h2⟩)
    rw [if_neg hm2]
    obtain ⟨p, hp⟩ : ∃ p, (if map then k + 2 else k) = p := ⟨_, rfl⟩
    have hp2 : (if map then pre.length + k + 2 else pre.length + k) = pre.length + p := by rw [← hp]; cases map <;> simp <;> omega
    rw [hp] at h
    rw [hp2]
    cases hval : val p with
    | none => rw [hval] at h; cases h
    | some r =>
      obtain ⟨n, k2⟩ := r
      rw [hval] at h
      obtain ⟨b1, b2, b3, hv'⟩ := hv p n k2 hval
      rw [hv']
      dsimp only at h ⊢
      have htx : (if map then ks ++ [txt (pre ++ ts ++ post) (pre.length + k)] else ks) = (if map then ks ++ [txt ts k] else ks) := by
        cases map
        · rfl
        · rw [if_pos rfl, if_pos rfl, txt_ext (isK_lt (hkey rfl).1)]
      rw [htx]
      by_cases h1 : isK ts k2 E = true
      · rw [if_pos h1] at h
        rw [if_pos (by rw [isK_ext (isK_lt h1)]; exact h1)]
        simp only [Option.some.injEq, Prod.mk.injEq] at h ⊢
        obtain ⟨a1, a2, a3⟩ := h
        exact ⟨a1, a2, by omega⟩
      · rw [if_neg h1] at h
        by_cases h2 : isK ts k2 44 = true
        · rw [if_pos h2] at h
          rw [if_neg (by rw [isK_ext (isK_lt h2)]; exact h1), if_pos (by rw [isK_ext (isK_lt h2)]; exact h2)]
          have := elems_ext (post := post) hv G (k2 + 1) _ _ _ _ _ h
          rw [← Nat.add_assoc] at this
          exact this
        · rw [if_neg h2] at h; cases h
/-- A value among other tokens. -/
theorem val_ext {pre ts post : List Tok} : ∀ (f k : Nat) (n : Node) (k2 : Nat), valI f ts k = some (n, k2) → valI f (pre ++ ts ++ post) (pre.length + k) = some (n, pre.length + k2)
  | 0, k, n, k2, h => by cases h
  | f + 1, k, n, k2, h => by
    have hbd := valI_bd _ _ _ _ _ h
    obtain ⟨t, ht, _⟩ := valI_head h
    have hk := (List.getElem?_eq_some_iff.1 ht).1
    have ht2 : (pre ++ ts ++ post)[pre.length + k]? = some t := by rw [get_ext hk]; exact ht
    rw [valI_at ht] at h
    rw [valI_at ht2]
    by_cases q1 : t.kind = 34 ∨ t.kind = 48 ∨ t.kind = 97
    · rw [if_pos q1] at h ⊢
      simp only [Option.some.injEq, Prod.mk.injEq] at h ⊢
      exact ⟨h.1, by omega⟩
    rw [if_neg q1] at h ⊢
    by_cases q2 : t.kind ≠ 91 ∧ t.kind ≠ 123
    · rw [if_pos q2] at h; cases h
    rw [if_neg q2] at h ⊢
    obtain ⟨E, hE⟩ : ∃ E, (if t.kind = 123 then 125 else 93) = E := ⟨_, rfl⟩
    rw [hE] at h ⊢
    rw [Nat.add_assoc]
    by_cases q3 : isK ts (k + 1) E = true
    · rw [if_pos q3] at h
      rw [if_pos (by rw [isK_ext (isK_lt q3)]; exact q3)]
      simp only [Option.some.injEq, Prod.mk.injEq] at h ⊢
      exact ⟨h.1, by omega⟩
    · rw [if_neg q3] at h
      cases he : elems (fun j => valI f ts j) ts (decide (t.kind = 123)) E ts.length (k + 1) [] [] with
      | none => rw [he] at h; cases h
      | some out =>
        obtain ⟨ks, ns, k3⟩ := out
        rw [he] at h
        obtain ⟨t1, ht1, _⟩ := elems_head he
        have hk1 := (List.getElem?_eq_some_iff.1 ht1).1
        rw [if_neg (by rw [isK_ext hk1]; exact q3)]
        have h2 := elems_ext (val' := fun j => valI f (pre ++ ts ++ post) j) (pre := pre) (post := post) (fun k n k2 hv => ⟨(valI_bd _ _ _ _ _ hv).1, (valI_bd _ _ _ _ _ hv).2, by have := valI_bd _ _ _ _ _ hv; omega, val_ext f k n k2 hv⟩) _ _ _ _ _ _ _ he
        have h3 := elems_more _ (pre.length + post.length) _ _ _ _ h2
        rw [show (pre ++ ts ++ post).length = ts.length + (pre.length + post.length) by simp; omega, h3]
        simp only [Option.some.injEq, Prod.mk.injEq] at h ⊢
        exact ⟨h.1, by omega⟩
/-- Where its tokens stand in the text is no matter. -/
theorem isK_shift (ts : List Tok) (d k c : Nat) (sh : Tok → Tok) (hs : ∀ t, (sh t).kind = t.kind ∧ (sh t).text = t.text) : isK (ts.map sh) k c = isK ts k c ∧ txt (ts.map sh) k = txt ts k := by
  unfold isK txt
  rw [List.getElem?_map]
  cases ts[k]? with
  | none => exact ⟨rfl, rfl⟩
  | some t => exact ⟨by simp [(hs t).1], by simp [(hs t).2]⟩
theorem elems_shift {val : Nat → Option (Node × Nat)} {ts : List Tok} {map : Bool} {E : Nat} (sh : Tok → Tok) (hs : ∀ t, (sh t).kind = t.kind ∧ (sh t).text = t.text) : ∀ (G k : Nat) (ks : List (List UInt8)) (ns : List Node), elems val (ts.map sh) map E G k ks ns = elems val ts map E G k ks ns
  | 0, k, ks, ns => rfl
  | G + 1, k, ks, ns => by
    unfold elems
    rw [(isK_shift ts 0 k 34 sh hs).1, (isK_shift ts 0 (k + 1) 58 sh hs).1, (isK_shift ts 0 k 34 sh hs).2]
    split
    · rfl
    · split
      · rfl
      · rename_i n k2 hv
        rw [(isK_shift ts 0 k2 E sh hs).1, (isK_shift ts 0 k2 44 sh hs).1]
        split
        · rfl
        · split
          · exact elems_shift sh hs G _ _ _
          · rfl
theorem val_shift {ts : List Tok} (sh : Tok → Tok) (hs : ∀ t, (sh t).kind = t.kind ∧ (sh t).text = t.text) : ∀ (f k : Nat), valI f (ts.map sh) k = valI f ts k
  | 0, k => rfl
  | f + 1, k => by
    rcases Nat.lt_or_ge k ts.length with hk | hk
    · have ht : ts[k]? = some ts[k] := List.getElem?_eq_getElem hk
      have ht2 : (ts.map sh)[k]? = some (sh ts[k]) := by rw [List.getElem?_map, ht]; rfl
      rw [valI_at ht, valI_at ht2, (hs ts[k]).1, (hs ts[k]).2, (isK_shift ts 0 (k + 1) _ sh hs).1, List.length_map, elems_shift sh hs]
      have hf : (fun j => valI f (ts.map sh) j) = (fun j => valI f ts j) := funext fun j => val_shift sh hs f j
      rw [hf]
    · rw [valI_out hk, valI_out (by rw [List.length_map]; exact hk)]
end Go.Proofs.Ytjnmcadfaombjaa

/- Plain: a value between brackets (chapter 37). -/
namespace Go.Proofs.Ytjnmcadfaombjaa
set_option linter.unusedVariables false
set_option linter.unusedSimpArgs false
theorem val_up {ts : List Tok} : ∀ (f f' k : Nat) (n : Node) (k2 : Nat), f ≤ f' → valI f ts k = some (n, k2) → valI f' ts k = some (n, k2)
  | 0, f', k, n, k2, _, h => by cases h
  | f + 1, 0, k, n, k2, hf, h => by omega
  | f + 1, f' + 1, k, n, k2, hf, h => by
    obtain ⟨t, ht, _⟩ := valI_head h
    rw [valI_at ht] at h
    rw [valI_at ht]
    by_cases q1 : t.kind = 34 ∨ t.kind = 48 ∨ t.kind = 97
    · rw [if_pos q1] at h ⊢; exact h
    rw [if_neg q1] at h ⊢
    by_cases q2 : t.kind ≠ 91 ∧ t.kind ≠ 123
    · rw [if_pos q2] at h; cases h
    rw [if_neg q2] at h ⊢
    obtain ⟨E, hE⟩ : ∃ E, (if t.kind = 123 then 125 else 93) = E := ⟨_, rfl⟩
    rw [hE] at h ⊢
    by_cases q3 : isK ts (k + 1) E = true
    · rw [if_pos q3] at h ⊢; exact h
    · rw [if_neg q3] at h ⊢
      cases he : elems (fun j => valI f ts j) ts (decide (t.kind = 123)) E ts.length (k + 1) [] [] with
      | none => rw [he] at h; cases h
      | some out =>
        obtain ⟨ks, ns, k3⟩ := out
        rw [he] at h
        have h2 := elems_ext (val' := fun j => valI f' ts j) (pre := []) (post := []) (fun k n k2 hv => ⟨(valI_bd _ _ _ _ _ hv).1, (valI_bd _ _ _ _ _ hv).2, by have := valI_bd _ _ _ _ _ hv; omega, by simpa using val_up f f' k n k2 (by omega) hv⟩) _ _ _ _ _ _ _ he
        simp only [List.nil_append, List.append_nil, List.length_nil, Nat.zero_add] at h2
        rw [h2]
        exact h
/-- What Parse says of a value in a row of one. -/
theorem parse_wrap {b : List UInt8} {ts : List Tok} {n : Node} (ht : toks b = some ts) (hv : val ts = some (n, ts.length)) :
    parseJ (91 :: b ++ [93]) = if 32 < deepN n + 1 then .error 8 else .ok (.mk 91 [] [] [n]) := by
  have h1 : toks (b ++ [93]) = some (ts ++ [⟨93, [], b.length, b.length + 1⟩]) := by
    rw [toks_app (by decide) ht, toks_mark (by decide)]; rfl
  have h2 : toks (91 :: b ++ [93]) = some ((⟨91, [], 0, 1⟩ : Tok) :: (ts ++ [(⟨93, [], b.length, b.length + 1⟩ : Tok)]).map (shiftT 1)) := by
    rw [List.cons_append, toks_mark (by decide), h1]; rfl
  obtain ⟨us, hus⟩ : ∃ us, us = ts.map (shiftT 1) := ⟨_, rfl⟩
  obtain ⟨z, hz⟩ : ∃ z : Tok, z = ⟨93, [], 1 + b.length, 1 + (b.length + 1)⟩ := ⟨_, rfl⟩
  have hlen : us.length = ts.length := by rw [hus, List.length_map]
  have h3 : toks (91 :: b ++ [93]) = some ([⟨91, [], 0, 1⟩] ++ us ++ [z]) := by
    rw [h2, List.map_append, ← hus, hz]; rfl
  have hvu : valI (ts.length + 1) us 0 = some (n, us.length) := by
    rw [hus, val_shift (shiftT 1) (fun t => ⟨rfl, rfl⟩), List.length_map]; exact hv
  have hx := val_ext (pre := [⟨91, [], 0, 1⟩]) (post := [z]) _ _ _ _ hvu
  obtain ⟨t0, ht0, hk0⟩ := valI_head hvu
  have hpos : 0 < us.length := (List.getElem?_eq_some_iff.1 ht0).1
  obtain ⟨W, hW⟩ : ∃ W, [⟨91, [], 0, 1⟩] ++ us ++ [z] = W := ⟨_, rfl⟩
  rw [hW] at hx h3
  have hWl : W.length = us.length + 2 := by rw [← hW]; simp
  have hW0 : W[0]? = some ⟨91, [], 0, 1⟩ := by rw [← hW]; rfl
  have hWz : isK W (1 + us.length) 93 = true := by
    unfold isK; rw [← hW, List.getElem?_append_right (by simp; omega)]; simp [hz, Nat.add_comm]
  have hW1 : ¬ isK W 1 93 = true := by
    intro h
    rw [← hW] at h
    have := isK_ext (pre := [⟨91, [], 0, 1⟩]) (post := [z]) (c := 93) hpos
    simp only [List.length_singleton, Nat.add_zero] at this
    rw [this] at h
    unfold isK at h
    rw [ht0] at h
    simp only [decide_eq_true_eq] at h
    omega
  have hvW : val W = some (.mk 91 [] [] [n], W.length) := by
    unfold val
    rw [valI_at hW0, if_neg (by decide), if_neg (by decide), if_neg (show ¬ isK W (0 + 1) (if (⟨91, [], 0, 1⟩ : Tok).kind = 123 then 125 else 93) = true from hW1)]
    have he : elems (fun j => valI W.length W j) W (decide ((⟨91, [], 0, 1⟩ : Tok).kind = 123)) (if (⟨91, [], 0, 1⟩ : Tok).kind = 123 then 125 else 93) W.length (0 + 1) [] [] = some ([], [n], W.length) := by
      obtain ⟨g, hg⟩ : ∃ g, W.length = g + 1 := ⟨W.length - 1, by omega⟩
      show elems (fun j => valI W.length W j) W false 93 W.length 1 [] [] = _
      rw [show elems (fun j => valI W.length W j) W false 93 W.length 1 [] [] = elems (fun j => valI W.length W j) W false 93 (g + 1) 1 [] [] from by rw [← hg]]
      unfold elems
      rw [if_neg (by simp)]
      have hxx : valI W.length W 1 = some (n, 1 + us.length) := val_up (ts.length + 1) _ _ _ _ (by omega) (by simpa using hx)
      rw [if_neg (by decide), hxx]
      dsimp only
      rw [if_pos hWz]
      simp; omega
    rw [he]
  unfold parseJ
  rw [h3]
  dsimp only
  rw [hvW]
  dsimp only
  rw [if_pos rfl]
  simp [deepN, deepL]
/-- What Parse says of a text, and of it in a row of one. -/
theorem parse_wraps (b : List UInt8) : parseJ b = .error 7 ∨ (parseJ b = .error 8 ∧ parseJ (91 :: b ++ [93]) = .error 8) ∨
    ∃ n, parseJ b = .ok n ∧ ((32 ≤ deepN n ∧ parseJ (91 :: b ++ [93]) = .error 8) ∨ (deepN n < 32 ∧ parseJ (91 :: b ++ [93]) = .ok (.mk 91 [] [] [n]))) := by
  cases ht : toks b with
  | none => left; unfold parseJ; rw [ht]
  | some ts =>
    cases hv : val ts with
    | none => left; unfold parseJ; rw [ht]; dsimp only; rw [hv]
    | some p =>
      obtain ⟨n, k⟩ := p
      by_cases hk : k = ts.length
      · subst hk
        have h1 := parse_wrap ht hv
        have h2 : parseJ b = if 32 < deepN n then .error 8 else .ok n := by
          unfold parseJ; rw [ht]; dsimp only; rw [hv]; dsimp only; rw [if_pos rfl]
        right
        by_cases hd : 32 < deepN n
        · left; exact ⟨by rw [h2, if_pos hd], by rw [h1, if_pos (by omega)]⟩
        · right
          refine ⟨n, by rw [h2, if_neg hd], ?_⟩
          by_cases he : 32 < deepN n + 1
          · left; exact ⟨by omega, by rw [h1, if_pos he]⟩
          · right; exact ⟨by omega, by rw [h1, if_neg he]⟩
      · left; unfold parseJ; rw [ht]; dsimp only; rw [hv]; dsimp only; rw [if_neg hk]
end Go.Proofs.Ytjnmcadfaombjaa

/- Plain: what is written of a node is read as it was (chapter 10). -/
namespace Go.Proofs.Ytjnmcadfaombjaa
set_option linter.unusedVariables false
set_option linter.unusedSimpArgs false
def gapL (how : Nat) : List UInt8 := if how % 2 = 1 then [32, 10] else []
def strL (u : List UInt8) : List UInt8 := 34 :: (writeJ u ++ [34])
/-- What stands ahead of a kid: its key. -/
def keyL (q how : Nat) (ks : List (List UInt8)) (i : Nat) : List UInt8 := if q = 123 ∧ i < ks.length then strL (ks.getD i []) ++ (gapL how ++ 58 :: gapL how) else []
def wEnd (q : Nat) : UInt8 := if q = 91 then 93 else 125
def commaL (how i : Nat) : List UInt8 := if 0 < i then 44 :: gapL how else []
mutual
def wrN : Node → Nat → List UInt8
  | .mk q t ks ns, how => if q = 34 then strL t else if q ≠ 91 ∧ q ≠ 123 then t else
    UInt8.ofNat q :: (gapL how ++ (wrL ns q ks how 0 ++ (gapL how ++ [wEnd q])))
def wrL : List Node → Nat → List (List UInt8) → Nat → Nat → List UInt8
  | [], _, _, _, _ => []
  | n :: ns, q, ks, how, i => commaL how i ++ (keyL q how ks i ++ (wrN n (how / 2) ++ wrL ns q ks how (i + 1)))
end
def sh0 (t : Tok) : Tok := ⟨t.kind, t.text, 0, 0⟩
/-- A text's tokens, apart from their places. -/
def Tk (x : List UInt8) (us : List Tok) : Prop := ∃ ts, toks x = some ts ∧ ts.map sh0 = us
theorem sh0_shift (d : Nat) (ts : List Tok) : (ts.map (shiftT d)).map sh0 = ts.map sh0 := by rw [List.map_map]; rfl
theorem tk_nil : Tk [] [] := ⟨[], rfl, rfl⟩
theorem tk_mark {c : UInt8} {x : List UInt8} {us : List Tok} (hc : markK c.toNat) (h : Tk x us) : Tk (c :: x) (⟨c.toNat, [], 0, 0⟩ :: us) := by
  obtain ⟨ts, h1, h2⟩ := h
  refine ⟨_, by rw [toks_mark hc, h1]; rfl, ?_⟩
  rw [List.map_cons, sh0_shift, h2]; rfl
theorem tk_str {u x : List UInt8} {us : List Tok} (hu : good u = true) (h : Tk x us) : Tk (strL u ++ x) (⟨34, u, 0, 0⟩ :: us) := by
  obtain ⟨ts, h1, h2⟩ := h
  have e : strL u ++ x = 34 :: (writeJ u ++ 34 :: x) := by simp [strL]
  refine ⟨_, by rw [e, toks_str (joined_good _ _ (Nat.le_refl _) hu), h1]; rfl, ?_⟩
  rw [List.map_cons, sh0_shift, h2]; rfl
theorem tk_blank {c : UInt8} {x : List UInt8} {us : List Tok} (hc : blankK c.toNat) (h : Tk x us) : Tk (c :: x) us := by
  obtain ⟨ts, h1, h2⟩ := h
  refine ⟨ts.map (shiftT 1), by rw [toks_step (by simp), bt_c0, if_pos hc, List.drop_succ_cons, List.drop_zero, h1]; rfl, ?_⟩
  rw [sh0_shift]; exact h2
theorem tk_gap {how : Nat} {x : List UInt8} {us : List Tok} (h : Tk x us) : Tk (gapL how ++ x) us := by
  unfold gapL
  split
  · exact tk_blank (by decide) (tk_blank (by decide) h)
  · exact h
theorem tk_app {l r : List UInt8} {ts us : List Tok} (hr : ∃ c x, r = c :: x ∧ sepK c.toNat) (h : Tk l ts) (h2 : Tk r us) : Tk (l ++ r) (ts ++ us) := by
  obtain ⟨c, x, rfl, hc⟩ := hr
  obtain ⟨a, a1, a2⟩ := h
  obtain ⟨b, b1, b2⟩ := h2
  refine ⟨_, by rw [toks_app hc a1, b1]; rfl, ?_⟩
  rw [List.map_append, sh0_shift, a2, b2]
def endC (q : Nat) : Nat := if q = 123 then 125 else 93
/-- What stands behind a kid's value. -/
def aft (F G : Nat) (W : List Tok) (q k : Nat) (ka : List (List UInt8)) (na : List Node) : Option (List (List UInt8) × List Node × Nat) :=
  if isK W k (endC q) then some (ka, na, k + 1)
  else if isK W k 44 then elems (fun j => valI F W j) W (decide (q = 123)) (endC q) G (k + 1) ka na
  else none
def restK (q : Nat) (ks : List (List UInt8)) (i : Nat) : List (List UInt8) := if q = 123 then ks.drop i else []
def RestR (ns : List Node) (q : Nat) (ks : List (List UInt8)) (i : Nat) (R : List UInt8) : Prop := ∃ ur : List Tok, 0 < ur.length ∧ Tk R ur ∧
  ∀ (pre : List Tok) (F G : Nat) (ka : List (List UInt8)) (na : List Node), ur.length ≤ F → ur.length ≤ G → aft F G (pre ++ ur) q pre.length ka na = some (ka ++ restK q ks i, na ++ ns, (pre ++ ur).length)
def NodeR (n : Node) (x : List UInt8) : Prop := ∃ un, Tk x un ∧ valI (un.length + 1) un 0 = some (n, un.length)
theorem isK_at {pre post : List Tok} {u : Tok} (c : Nat) : isK (pre ++ u :: post) pre.length c = decide (u.kind = c) := by
  unfold isK
  rw [List.getElem?_append_right (Nat.le_refl _), Nat.sub_self]; rfl
theorem isK_at1 {pre post : List Tok} {u v : Tok} (c : Nat) : isK (pre ++ u :: v :: post) (pre.length + 1) c = decide (v.kind = c) := by
  have := isK_at (pre := pre ++ [u]) (post := post) (u := v) c
  simpa using this
theorem txt_at {pre post : List Tok} {u : Tok} : txt (pre ++ u :: post) pre.length = u.text := by
  unfold txt
  rw [List.getElem?_append_right (Nat.le_refl _), Nat.sub_self]; rfl
theorem kid_step {n : Node} {ns : List Node} {q how i : Nat} {ks : List (List UInt8)} {R : List UInt8} (hq : q = 91 ∨ q = 123) (hR : ∃ c x, R = c :: x ∧ sepK c.toNat) (hn : NodeR n (wrN n (how / 2))) (hr : RestR ns q ks (i + 1) R)
    (hg : ∀ k ∈ ks, good k = true) (hi : q = 123 → i < ks.length) :
    ∃ vs : List Tok, 0 < vs.length ∧ Tk (keyL q how ks i ++ (wrN n (how / 2) ++ R)) vs ∧ (∀ pre : List Tok, isK (pre ++ vs) pre.length (endC q) = false) ∧
      ∀ (pre : List Tok) (F G : Nat) (ka : List (List UInt8)) (na : List Node), vs.length ≤ F → vs.length ≤ G → elems (fun j => valI F (pre ++ vs) j) (pre ++ vs) (decide (q = 123)) (endC q) G pre.length ka na = some (ka ++ restK q ks i, na ++ n :: ns, (pre ++ vs).length) := by
  obtain ⟨un, hu, hv⟩ := hn
  obtain ⟨ur, hp, hur, haft⟩ := hr
  have hb := valI_bd _ _ _ _ _ hv
  have hT := tk_app hR hu hur
  rcases hq with rfl | rfl
  · refine ⟨un ++ ur, by rw [List.length_append]; omega, ?_, fun pre => ?_, fun pre F G ka na hF hG => ?_⟩
    · unfold keyL; rw [if_neg (by omega)]; exact hT
    · cases un with
      | nil => simp at hb
      | cons t un =>
        rw [List.cons_append, isK_at]
        rw [valI_at (t := t) rfl] at hv
        apply decide_eq_false
        intro hk
        rw [show endC 91 = 93 from rfl] at hk
        rw [hk] at hv
        rw [if_neg (by decide), if_pos (by decide)] at hv
        cases hv
    · rw [List.length_append] at hF hG
      obtain ⟨G', rfl⟩ : ∃ G', G = G' + 1 := ⟨G - 1, by omega⟩
      have hx := val_ext (pre := pre) (post := ur) _ _ _ _ hv
      have hx2 := val_up _ F _ _ _ (by omega) hx
      rw [List.append_assoc, Nat.add_zero] at hx2
      rw [elems, if_neg (by simp)]
      simp only [show decide ((91 : Nat) = 123) = false from rfl, Bool.false_eq_true, if_false]
      rw [hx2]
      dsimp only
      have ha := haft (pre ++ un) F G' ka (na ++ [n]) (by omega) (by omega)
      unfold aft at ha
      rw [List.append_assoc, List.length_append] at ha
      simp only [show decide ((91 : Nat) = 123) = false from rfl] at ha
      rw [ha]
      simp [restK]
  · have hi := hi rfl
    obtain ⟨key, hkey⟩ : ∃ key, ks[i]? = some key := ⟨_, List.getElem?_eq_getElem hi⟩
    have hgd : ks.getD i [] = key := by rw [List.getD_eq_getElem?_getD, hkey]; rfl
    have hdrop : ks.drop i = key :: ks.drop (i + 1) := by
      rw [List.drop_eq_getElem_cons hi]; congr 1
      rw [List.getElem?_eq_getElem hi] at hkey; exact Option.some.inj hkey
    have hgk := hg key (List.mem_of_getElem? hkey)
    refine ⟨⟨34, key, 0, 0⟩ :: ⟨58, [], 0, 0⟩ :: (un ++ ur), by simp, ?_, fun pre => ?_, fun pre F G ka na hF hG => ?_⟩
    · unfold keyL
      rw [if_pos ⟨rfl, hi⟩, hgd]
      rw [show strL key ++ (gapL how ++ 58 :: gapL how) ++ (wrN n (how / 2) ++ R) = strL key ++ (gapL how ++ (58 :: (gapL how ++ (wrN n (how / 2) ++ R)))) by simp]
      exact tk_str hgk (tk_gap (tk_mark (by decide) (tk_gap hT)))
    · rw [isK_at]; rfl
    · simp only [List.length_cons, List.length_append] at hF hG
      obtain ⟨G', rfl⟩ : ∃ G', G = G' + 1 := ⟨G - 1, by omega⟩
      have hx := val_ext (pre := pre ++ [⟨34, key, 0, 0⟩, ⟨58, [], 0, 0⟩]) (post := ur) _ _ _ _ hv
      have hx2 := val_up _ F _ _ _ (by omega) hx
      rw [List.append_assoc, List.append_assoc, List.length_append, Nat.add_zero] at hx2
      simp only [List.cons_append, List.nil_append, List.length_cons, List.length_nil] at hx2
      rw [elems, if_neg (fun h => h.2 ⟨by rw [isK_at]; rfl, by rw [isK_at1]; rfl⟩)]
      simp only [decide_true, if_true]
      rw [show pre.length + 2 = pre.length + (0 + 1 + 1) from rfl, hx2, txt_at]
      dsimp only
      have ha := haft (pre ++ [⟨34, key, 0, 0⟩, ⟨58, [], 0, 0⟩] ++ un) F G' (ka ++ [key]) (na ++ [n]) (by omega) (by omega)
      unfold aft at ha
      simp only [List.append_assoc, List.length_append, List.cons_append, List.nil_append, List.length_cons, List.length_nil, decide_true] at ha
      have e1 : pre.length + (0 + 1 + 1) + un.length = pre.length + (un.length + 1 + 1) := by omega
      rw [e1]
      rw [ha]
      simp [restK, hdrop]
theorem rest_head (ns : List Node) (q : Nat) (ks : List (List UInt8)) (how i : Nat) (hi : 0 < i) (hq : q = 91 ∨ q = 123) : ∃ c x, wrL ns q ks how i ++ (gapL how ++ [wEnd q]) = c :: x ∧ sepK c.toNat := by
  cases ns with
  | nil =>
    rw [wrL, List.nil_append]
    unfold gapL
    split
    · exact ⟨_, _, rfl, by decide⟩
    · exact ⟨_, _, rfl, by rcases hq with rfl | rfl <;> decide⟩
  | cons n ns =>
    rw [wrL]
    unfold commaL
    rw [if_pos hi]
    exact ⟨_, _, rfl, by decide⟩
theorem wEnd_mark {q : Nat} (hq : q = 91 ∨ q = 123) : markK (wEnd q).toNat ∧ (wEnd q).toNat = endC q := by rcases hq with rfl | rfl <;> decide
mutual
theorem write_node : ∀ (n : Node) (how : Nat), wholeN n = true → NodeR n (wrN n how)
  | .mk q t ks ns, how, h => by
    rw [wholeN, Bool.and_eq_true] at h
    obtain ⟨hg, h⟩ := h
    by_cases hl : q = 34 ∨ q = 48 ∨ q = 97
    · rw [if_pos hl] at h
      have hns := leaf_kids h
      have hal : q = 48 ∨ q = 97 → aloneB t q = true := by
        unfold leafB at h
        simp only [Bool.and_eq_true] at h
        rintro (rfl | rfl)
        · rw [alone_num]; simpa using h.1.2
        · rw [alone_word]; simpa using h.2
      have hks : ks = [] := by
        unfold leafB at h
        simp only [Bool.and_eq_true, decide_eq_true_eq] at h
        exact List.length_eq_zero_iff.1 (by omega)
      subst hns
      subst hks
      rw [wrN]
      by_cases h34 : q = 34
      · subst h34
        rw [if_pos rfl]
        refine ⟨[⟨34, t, 0, 0⟩], ?_, ?_⟩
        · have := tk_str hg tk_nil; rwa [List.append_nil] at this
        · rw [valI_at (t := ⟨34, t, 0, 0⟩) rfl, if_pos (.inl rfl)]; rfl
      · rw [if_neg h34, if_pos (by omega)]
        have ha := hal (by omega)
        unfold aloneB at ha
        split at ha
        · rename_i u hu
          simp only [Bool.and_eq_true, decide_eq_true_eq] at ha
          refine ⟨[sh0 u], ⟨_, hu, rfl⟩, ?_⟩
          rw [valI_at (t := sh0 u) rfl, if_pos (by show u.kind = 34 ∨ u.kind = 48 ∨ u.kind = 97; omega)]
          show some (Node.mk u.kind u.text [] [], 0 + 1) = _
          rw [ha.1, ha.2]; rfl
        · cases ha
    · rw [if_neg hl] at h
      simp only [Bool.and_eq_true] at h
      obtain ⟨⟨hs, hk⟩, hw⟩ := h
      unfold shapeB at hs
      simp only [Bool.and_eq_true, Bool.or_eq_true, decide_eq_true_eq] at hs
      obtain ⟨rfl, hs⟩ := hs
      have hq : q = 91 ∨ q = 123 := by omega
      have hg2 : ∀ k ∈ ks, good k = true := List.all_eq_true.1 hk
      have hE := wEnd_mark hq
      have hqb : UInt8.ofNat q = (if q = 91 then 91 else 123) ∧ markK q ∧ (UInt8.ofNat q).toNat = q := by rcases hq with rfl | rfl <;> decide
      have hqm : markK (UInt8.ofNat q).toNat := by rw [hqb.2.2]; exact hqb.2.1
      have hqe : (if q = 123 then 125 else 93) = endC q := rfl
      rw [wrN, if_neg (by omega), if_neg (by omega)]
      cases ns with
      | nil =>
        have hks : ks = [] := by
          rcases hs with hs | hs
          · exact List.length_eq_zero_iff.1 hs.2
          · exact List.length_eq_zero_iff.1 hs.2
        subst hks
        refine ⟨[⟨(UInt8.ofNat q).toNat, [], 0, 0⟩, ⟨(wEnd q).toNat, [], 0, 0⟩], ?_, ?_⟩
        · rw [wrL, List.nil_append]
          exact tk_mark hqm (tk_gap (tk_gap (tk_mark hE.1 tk_nil)))
        · rw [valI_at (t := ⟨(UInt8.ofNat q).toNat, [], 0, 0⟩) rfl]
          dsimp only
          rw [hqb.2.2, if_neg hl, if_neg (by omega), hqe, if_pos (by simp [isK, hE.2])]; rfl
      | cons n ns =>
        rw [wholeL, Bool.and_eq_true] at hw
        obtain ⟨vs, hp, hT, hne, hel⟩ := kid_step (n := n) (ns := ns) (q := q) (how := how) (i := 0) (ks := ks) hq (rest_head ns q ks how 1 (by omega) hq) (write_node n (how / 2) hw.1)
          (write_kids ns q ks how 1 hq (by omega) hw.2 hg2 (fun h123 => by subst h123; have h2 := hs; simp only [List.length_cons] at h2; omega)) hg2 (fun h123 => by subst h123; have h2 := hs; simp only [List.length_cons] at h2; omega)
        refine ⟨⟨(UInt8.ofNat q).toNat, [], 0, 0⟩ :: vs, ?_, ?_⟩
        · rw [wrL, show commaL how 0 = [] from rfl, List.nil_append]
          have := tk_mark hqm (tk_gap (how := how) hT)
          simpa [List.append_assoc] using this
        · rw [valI_at (t := ⟨(UInt8.ofNat q).toNat, [], 0, 0⟩) rfl]
          dsimp only
          rw [hqb.2.2, if_neg hl, if_neg (by omega), hqe]
          have h0 := hne [⟨q, [], 0, 0⟩]
          have he := hel [⟨q, [], 0, 0⟩] (vs.length + 1) (vs.length + 1) [] [] (by omega) (by omega)
          simp only [List.cons_append, List.nil_append, List.length_cons, List.length_nil] at h0 he
          simp only [List.length_cons]
          rw [h0, he]
          have hrk : restK q ks 0 = ks := by
            unfold restK
            split
            · simp
            · rename_i h123
              rcases hs with hs | hs
              · exact (List.length_eq_zero_iff.1 hs.2).symm
              · exact absurd hs.1 h123
          rw [hrk]; rfl
theorem write_kids : ∀ (ns : List Node) (q : Nat) (ks : List (List UInt8)) (how i : Nat), (q = 91 ∨ q = 123) → 0 < i → wholeL ns = true → (∀ k ∈ ks, good k = true) → (q = 123 → ks.length = i + ns.length) →
    RestR ns q ks i (wrL ns q ks how i ++ (gapL how ++ [wEnd q]))
  | [], q, ks, how, i, hq, hi, _, _, hk => by
    have hE := wEnd_mark hq
    refine ⟨[⟨(wEnd q).toNat, [], 0, 0⟩], by simp, ?_, fun pre F G ka na hF hG => ?_⟩
    · rw [wrL, List.nil_append]
      exact tk_gap (tk_mark hE.1 tk_nil)
    · unfold aft
      rw [isK_at, hE.2, if_pos (by simp)]
      have hrk : restK q ks i = [] := by
        unfold restK
        split
        · rename_i h; exact List.drop_eq_nil_of_le (by have := hk h; simp at this; omega)
        · rfl
      rw [hrk]; simp
  | n :: ns, q, ks, how, i, hq, hi, hw, hg, hk => by
    rw [wholeL, Bool.and_eq_true] at hw
    obtain ⟨vs, hp, hT, hne, hel⟩ := kid_step (n := n) (ns := ns) (q := q) (how := how) (i := i) (ks := ks) hq (rest_head ns q ks how (i + 1) (by omega) hq) (write_node n (how / 2) hw.1)
      (write_kids ns q ks how (i + 1) hq (by omega) hw.2 hg (fun h123 => by have := hk h123; simp only [List.length_cons] at this; omega)) hg (fun h123 => by have := hk h123; simp only [List.length_cons] at this; omega)
    refine ⟨⟨44, [], 0, 0⟩ :: vs, by simp, ?_, fun pre F G ka na hF hG => ?_⟩
    · rw [wrL]
      unfold commaL
      rw [if_pos hi]
      have := tk_mark (c := 44) (by decide) (tk_gap (how := how) hT)
      simpa [List.append_assoc] using this
    · simp only [List.length_cons] at hF hG
      unfold aft
      rw [isK_at, isK_at, if_neg (by rcases hq with rfl | rfl <;> decide), if_pos (by decide)]
      have he := hel (pre ++ [⟨44, [], 0, 0⟩]) F G ka na (by omega) (by omega)
      simp only [List.append_assoc, List.cons_append, List.nil_append, List.length_append, List.length_cons, List.length_nil] at he
      rw [he]
      simp [List.length_append]
end
/-- What is written of a node that may come of a text is read as that node. -/
theorem back_parse {n : Node} (how : Nat) (h : fitsN n 1 = true) : parseJ (wrN n how) = .ok n := by
  rw [fits_whole, Bool.and_eq_true, decide_eq_true_eq] at h
  obtain ⟨us, ⟨ts, ht, hts⟩, hv⟩ := write_node n how h.1
  have hl : us.length = ts.length := by rw [← hts, List.length_map]
  have hval : val ts = some (n, ts.length) := by
    unfold val
    rw [← val_shift sh0 (fun t => ⟨rfl, rfl⟩), hts, ← hl]; exact hv
  unfold parseJ
  rw [ht]
  dsimp only
  rw [hval]
  dsimp only
  rw [if_pos rfl, if_neg (by omega)]
/-- How long what is written of a node is. -/
def TinyK (t : List UInt8) (ks : List (List UInt8)) : Prop := t.length ≤ 100 ∧ ∀ k ∈ ks, k.length ≤ 100
mutual
def TinyN : Node → Prop
  | .mk _ t ks ns => TinyK t ks ∧ TinyL ns
def TinyL : List Node → Prop
  | [] => True
  | n :: ns => TinyN n ∧ TinyL ns
end
theorem writeJ_le (l : List UInt8) : (writeJ l).length ≤ 6 * l.length := by
  have h : ∀ rs : List Nat, (rs.flatMap wrJ).length ≤ 6 * rs.length := by
    intro rs
    induction rs with
    | nil => simp
    | cons r rs ih => rw [List.flatMap_cons, List.length_append, List.length_cons]; have := (wrJ_length r).1; omega
  have h1 := h (runes l)
  have h2 := runes_length_le l
  unfold writeJ; omega
theorem gap_le (how : Nat) : (gapL how).length ≤ 2 := by unfold gapL; split <;> simp
theorem strL_le {u : List UInt8} (h : u.length ≤ 100) : (strL u).length ≤ 602 := by
  unfold strL
  have := writeJ_le u
  simp; omega
theorem keyL_le {q how : Nat} {ks : List (List UInt8)} {i : Nat} (h : ∀ k ∈ ks, k.length ≤ 100) : (keyL q how ks i).length ≤ 607 := by
  unfold keyL
  split
  · rename_i hi
    have h1 : (ks.getD i []).length ≤ 100 := by
      rw [List.getD_eq_getElem?_getD, List.getElem?_eq_getElem hi.2]
      exact h _ (List.getElem_mem hi.2)
    have h2 := strL_le h1
    have h3 := gap_le how
    simp only [List.length_append, List.length_cons]; omega
  · simp
mutual
theorem wrN_le : ∀ (n : Node) (how : Nat), TinyN n → (wrN n how).length ≤ 602 + 1300 * (sizeN n - 1)
  | .mk q t ks ns, how, h => by
    unfold TinyN at h
    have h2 := strL_le h.1.1
    have h3 := wrL_le ns q ks how 0 h.1.2 h.2
    have h4 := gap_le how
    have h5 := h.1.1
    rw [wrN, sizeN]
    split
    · omega
    split
    · omega
    · simp only [List.length_cons, List.length_append, List.length_nil]; omega
theorem wrL_le : ∀ (ns : List Node) (q : Nat) (ks : List (List UInt8)) (how i : Nat), (∀ k ∈ ks, k.length ≤ 100) → TinyL ns → (wrL ns q ks how i).length ≤ 1300 * sizeL ns
  | [], q, ks, how, i, hk, h => by rw [wrL]; simp
  | n :: ns, q, ks, how, i, hk, h => by
    unfold TinyL at h
    have h1 := wrN_le n (how / 2) h.1
    have h2 := wrL_le ns q ks how (i + 1) hk h.2
    have h3 := keyL_le (q := q) (how := how) (i := i) hk
    have h4 := gap_le how
    have h5 : (commaL how i).length ≤ 3 := by unfold commaL; split <;> simp; omega
    have h6 := sizeN_pos n
    rw [wrL, sizeL]
    simp only [List.length_append]
    omega
end
theorem written_small {n : Node} (how : Nat) (ht : TinyN n) (hz : sizeN n ≤ 60) : (wrN n how).length ≤ 80000 := by
  have := wrN_le n how ht
  omega
end Go.Proofs.Ytjnmcadfaombjaa

/- Walks: the document's Write of a node (chapter 10). -/
namespace Go.Proofs.Ytjnmcadfaombjaa
open Go.RowKit
set_option linter.unusedVariables false
set_option linter.unusedSimpArgs false
set_option linter.constructorNameAsVariable false
def WriteC (n : Node) : Prop := ∀ (how : Nat) (ok : Nat → Prop) (a b c e : Value) (w : World), how ≤ 65535 → NodeA w ok n (.agg #[a, b, c, e]) → TinyN n → sizeN n ≤ 60 →
  Calls Try.prog 21 #[.agg #[a, b, c, e], .int .i64 how] w fun x w' => x = .returned (.string (strOf (wrN n how))) ∧ Below w.heap.size w w'
theorem tinyL_at : ∀ (ns : List Node) (j : Nat) (n : Node), TinyL ns → ns[j]? = some n → TinyN n
  | [], j, n, _, h => by simp at h
  | m :: ns, 0, n, ht, h => by
    unfold TinyL at ht
    have h1 : m = n := by simpa using h
    rw [← h1]; exact ht.1
  | m :: ns, j + 1, n, ht, h => by
    unfold TinyL at ht
    exact tinyL_at ns j n ht.2 (by simpa using h)
theorem sizeL_at : ∀ (ns : List Node) (j : Nat) (n : Node), ns[j]? = some n → sizeN n ≤ sizeL ns
  | [], j, n, h => by simp at h
  | m :: ns, 0, n, h => by
    have h1 : m = n := by simpa using h
    rw [← h1]
    show _ ≤ sizeL (m :: ns)
    rw [sizeL]; omega
  | m :: ns, j + 1, n, h => by
    have := sizeL_at ns j n (by simpa using h)
    rw [sizeL]; omega
/-- What is written while kids are gone through. -/
def WrMid (q : Nat) (ks : List (List UInt8)) (ns : List Node) (how : Nat) (acc : List UInt8) (i : Nat) : Prop :=
  acc ++ wrL (ns.drop i) q ks how i = UInt8.ofNat q :: (gapL how ++ wrL ns q ks how 0)
theorem WrMid.len {q : Nat} {ks : List (List UInt8)} {ns : List Node} {how : Nat} {acc : List UInt8} {i : Nat} (h : WrMid q ks ns how acc i) (hk : ∀ k ∈ ks, k.length ≤ 100) (ht : TinyL ns) (hz : sizeL ns ≤ 60) : acc.length ≤ 80000 := by
  unfold WrMid at h
  have h1 := congrArg List.length h
  have h2 := wrL_le ns q ks how 0 hk ht
  have h3 := gap_le how
  simp only [List.length_append, List.length_cons] at h1
  omega
theorem WrMid.step {q : Nat} {ks : List (List UInt8)} {ns : List Node} {how : Nat} {acc : List UInt8} {i : Nat} {n : Node} (h : WrMid q ks ns how acc i) (hn : ns[i]? = some n) : WrMid q ks ns how (acc ++ commaL how i ++ keyL q how ks i ++ wrN n (how / 2)) (i + 1) := by
  unfold WrMid at h ⊢
  obtain ⟨hi, he⟩ := List.getElem?_eq_some_iff.1 hn
  rw [← h, List.drop_eq_getElem_cons hi, he]
  simp only [wrL, List.append_assoc]
theorem gap_app (x : List UInt8) (how : Nat) (g : ByteArray) (h : strOf (gapL how) = g) : strOf x ++ g = strOf (x ++ gapL how) := by rw [← h, strOf_append]
set_option maxRecDepth 100000 in
set_option maxHeartbeats 16000000 in
theorem write_leaf (q : Nat) (t : List UInt8) (ks : List (List UInt8)) (ns : List Node) (hq : ¬ (q = 91 ∨ q = 123)) : WriteC (.mk q t ks ns) := by
  intro how ok a b c e w hh hn hT hz
  unfold NodeA at hn
  obtain ⟨kv, nv, cs, hv, h1, h2, h3⟩ := hn
  simp only [Value.agg.injEq, Array.mk.injEq, List.cons.injEq, and_true] at hv
  obtain ⟨rfl, rfl, rfl, rfl⟩ := hv
  obtain ⟨o1, c1, rfl⟩ := rowA_len h1
  obtain ⟨o2, c2, rfl⟩ := rowA_len h2
  have hxs : (strOf t).size = t.length := strOf_size t
  unfold TinyN at hT
  obtain ⟨⟨t1, t2⟩, t3⟩ := hT
  have HX := Lib.hid (fun w => rwrite_any (strOf t) w (by omega))
  rw [strOf_list] at HX
  clear h1 h2 h3 t2 t3 hz
  have HB0 := Lib.hid ((Below.refl w.heap.size w).alloc (Nat.le_refl _) (.cells #[.int .u8 q, .string (strOf t), .slice o1 ks.length c1, .slice o2 ns.length c2] 44))
  have HN0 := Lib.hid (Blk.new w 44 #[.int .u8 q, .string (strOf t), .slice o1 ks.length c1, .slice o2 ns.length c2])
  have hwl : (writeJ t).length ≤ 600 := by have := writeJ_le t; omega
  have HW : Hid (strOf [34] ++ strOf (writeJ t) ++ strOf [34] = strOf (strL t)) := by show _ = _; rw [strOf_append, strOf_append]; rfl
  have hws : (strOf (writeJ t)).size ≤ 600 := by rw [strOf_size]; exact hwl
  obtain ⟨y, hy⟩ : ∃ y, strOf (writeJ t) = y := ⟨_, rfl⟩
  rw [hy] at HX HW hws
  clear hy hwl
  have hg : (how % 2 = 1 ∧ gapL how = [32, 10]) ∨ (¬ how % 2 = 1 ∧ gapL how = []) := by
    unfold gapL
    by_cases h : how % 2 = 1
    · exact .inl ⟨h, if_pos h⟩
    · exact .inr ⟨h, if_neg h⟩
  have HG := Lib.hid hg
  clear hg
  obtain ⟨g, hgv⟩ : ∃ g, strOf (gapL how) = g := ⟨_, rfl⟩
  have HGV := Lib.hid hgv
  clear hgv
  by_cases h34 : q = 34
  · have HV2 : Hid (wrN (.mk q t ks ns) how = strL t) := by show _ = _; rw [wrN, if_pos h34]
    obtain ⟨x, hx⟩ : ∃ x, strOf t = x := ⟨_, rfl⟩
    rw [hx] at HX HB0 HN0 hxs ⊢
    clear hx
    subst h34
    go_enter Try.func21, Try.ntmps21
    go_upto_region 1 with fail
    generalize hW : w.alloc (.cells #[.int .u8 ((34 : Nat) : Int), .string x, .slice o1 ks.length c1, .slice o2 ns.length c2] 44) = W0 at *
    clear hW
    have n0 : W0.cell? ⟨w.heap.size, 0, none⟩ = some (.int .u8 34) := HN0.out.cell 0
    have n1 := HN0.out.cell 1
    go_upto_if 10 with fail
    go_cut [5] (fun v wx => v = .string g ∧ W0 = wx)
    case first =>
      rcases HG.out with ⟨h, hg⟩ | ⟨h, hg⟩
      · have hm : ((how : Int).tmod 2 == 1) = true := by rw [show (how : Int).tmod 2 = ((how % 2 : Nat) : Int) from rfl, h]; rfl
        clear HG n0
        go_wp2_with fail
        go_meet
        exact ⟨by rw [← HGV.out, hg]; rfl, rfl⟩
      · have hm : ((how : Int).tmod 2 == 1) = false := by rw [show (how : Int).tmod 2 = ((how % 2 : Nat) : Int) from rfl]; simp; omega
        clear HG n0
        go_wp2_with fail
        go_meet
        exact ⟨by rw [← HGV.out, hg]; rfl, rfl⟩
    case rest =>
    obtain ⟨rfl, rfl⟩ := hcut
    go_wp2_with fail
    refine (HX.out _).mono ?_
    rintro e w3 ⟨rfl, b3⟩
    go_wp2_with fail
    go_ret
    exact ⟨by rw [HV2.out, ← HW.out]; rfl, HB0.out.trans (b3.mono HB0.out.size)⟩
  · have HV2 : Hid (wrN (.mk q t ks ns) how = t) := by show _ = _; rw [wrN, if_neg h34, if_pos (by omega)]
    have e0 : ((q : Int) == 34) = false := by simp; omega
    have e1 : ((q : Int) != 91) = true := by simp; omega
    have e2 : ((q : Int) != 123) = true := by simp; omega
    obtain ⟨x, hx⟩ : ∃ x, strOf t = x := ⟨_, rfl⟩
    rw [hx] at HX HB0 HN0 hxs ⊢
    have HXV := Lib.hid hx
    clear hx h34 hq HX HW
    go_enter Try.func21, Try.ntmps21
    go_upto_region 1 with fail
    generalize hW : w.alloc (.cells #[.int .u8 q, .string x, .slice o1 ks.length c1, .slice o2 ns.length c2] 44) = W0 at *
    clear hW
    have n0 := HN0.out.cell 0
    have n1 := HN0.out.cell 1
    go_upto_if 10 with fail
    go_cut [5] (fun v wx => v = .string g ∧ W0 = wx)
    case first =>
      rcases HG.out with ⟨h, hg⟩ | ⟨h, hg⟩
      · have hm : ((how : Int).tmod 2 == 1) = true := by rw [show (how : Int).tmod 2 = ((how % 2 : Nat) : Int) from rfl, h]; rfl
        clear HG n0
        go_wp2_with fail
        go_meet
        exact ⟨by rw [← HGV.out, hg]; rfl, rfl⟩
      · have hm : ((how : Int).tmod 2 == 1) = false := by rw [show (how : Int).tmod 2 = ((how % 2 : Nat) : Int) from rfl]; simp; omega
        clear HG n0
        go_wp2_with fail
        go_meet
        exact ⟨by rw [← HGV.out, hg]; rfl, rfl⟩
    case rest =>
    obtain ⟨rfl, rfl⟩ := hcut
    go_wp2_with fail
    go_ret
    exact ⟨by rw [HV2.out, HXV.out]; rfl, HB0.out⟩
set_option maxRecDepth 100000 in
set_option maxHeartbeats 16000000 in
theorem write_row (q : Nat) (t : List UInt8) (ks : List (List UInt8)) (ns : List Node) (hq : q = 91 ∨ q = 123) (hF : ∀ (j : Nat) (n : Node), ns[j]? = some n → WriteC n) : WriteC (.mk q t ks ns) := by
  intro how ok a b c e w hh hn hT hz
  unfold NodeA at hn
  obtain ⟨kv, nv, cs, hv, h1, h2, h3⟩ := hn
  simp only [Value.agg.injEq, Array.mk.injEq, List.cons.injEq, and_true] at hv
  obtain ⟨rfl, rfl, rfl, rfl⟩ := hv
  have HTX := Lib.hid (TxtA.of h1)
  obtain ⟨o1, c1, rfl⟩ := rowA_len h1
  obtain ⟨o2, c2, rfl⟩ := rowA_len h2
  have HR := Lib.hid h2
  have HKd := Lib.hid h3
  have HF := Lib.hid hF
  unfold TinyN at hT
  obtain ⟨⟨t1, t2⟩, t3⟩ := hT
  have HTK := Lib.hid t2
  have HTL := Lib.hid t3
  have hzl : sizeL ns ≤ 60 ∧ ∀ (j : Nat) (n : Node), ns[j]? = some n → TinyN n ∧ sizeN n ≤ 60 := by
    have h4 : sizeL ns ≤ 60 := by unfold sizeN at hz; omega
    refine ⟨h4, fun j n hj => ⟨tinyL_at ns j n t3 hj, ?_⟩⟩
    have := sizeL_at ns j n hj
    omega
  have HZ := Lib.hid hzl
  have hnl : ns.length ≤ 60 := Nat.le_trans (length_sizeL ns) hzl.1
  have hsk : ∀ u ∈ ks, (writeJ u).length ≤ 600 := fun u hu => by have := writeJ_le u; have := t2 u hu; omega
  have HSK := Lib.hid hsk
  have HX := Lib.hid (fun (u : List UInt8) (w : World) (h : u.length ≤ 100) => rwrite_any (strOf u) w (by rw [strOf_size]; omega))
  clear h1 h2 h3 hF t2 t3 hz hzl hsk
  have HV : Hid (wrN (.mk q t ks ns) how = UInt8.ofNat q :: (gapL how ++ (wrL ns q ks how 0 ++ (gapL how ++ [wEnd q])))) := by show _ = _; rw [wrN, if_neg (by omega), if_neg (by omega)]
  have HB0 := Lib.hid ((Below.refl w.heap.size w).alloc (Nat.le_refl _) (.cells #[.int .u8 q, .string (strOf t), .slice o1 ks.length c1, .slice o2 ns.length c2] 44))
  have HN0 := Lib.hid (Blk.new w 44 #[.int .u8 q, .string (strOf t), .slice o1 ks.length c1, .slice o2 ns.length c2])
  obtain ⟨x, hx⟩ : ∃ x, strOf t = x := ⟨_, rfl⟩
  rw [hx] at HB0 HN0 ⊢
  clear hx
  have hg : (how % 2 = 1 ∧ gapL how = [32, 10]) ∨ (¬ how % 2 = 1 ∧ gapL how = []) := by
    unfold gapL
    by_cases h : how % 2 = 1
    · exact .inl ⟨h, if_pos h⟩
    · exact .inr ⟨h, if_neg h⟩
  have HG := Lib.hid hg
  clear hg
  obtain ⟨g, hgv⟩ : ∃ g, strOf (gapL how) = g := ⟨_, rfl⟩
  have hgs : g.size ≤ 2 := by rw [← hgv, strOf_size]; exact gap_le how
  have HGV := Lib.hid hgv
  have HGA := Lib.hid (fun x => gap_app x how g hgv)
  clear hgv
  have kc := fun w a => conv_1 w a
  have kz : ∀ a : Int, (strOfNums [a]).size = 1 := fun _ => rfl
  rcases hq with rfl | rfl
  · rw [show ((91 : Nat) : Int) = 91 from rfl] at HB0 HN0 ⊢
    go_enter Try.func21, Try.ntmps21
    go_upto_region 1 with fail
    generalize hW : w.alloc (.cells #[.int .u8 91, .string x, .slice o1 ks.length c1, .slice o2 ns.length c2] 44) = W0 at *
    clear hW
    have n0 : W0.cell? ⟨w.heap.size, 0, none⟩ = some (.int .u8 91) := HN0.out.cell 0
    go_upto_if 10 with fail
    go_cut [5] (fun v wx => v = .string g ∧ W0 = wx)
    case first =>
      rcases HG.out with ⟨h, hg⟩ | ⟨h, hg⟩
      · have hm : ((how : Int).tmod 2 == 1) = true := by rw [show (how : Int).tmod 2 = ((how % 2 : Nat) : Int) from rfl, h]; rfl
        clear HG n0
        go_wp2_with fail
        go_meet
        exact ⟨by rw [← HGV.out, hg]; rfl, rfl⟩
      · have hm : ((how : Int).tmod 2 == 1) = false := by rw [show (how : Int).tmod 2 = ((how % 2 : Nat) : Int) from rfl]; simp; omega
        clear HG n0
        go_wp2_with fail
        go_meet
        exact ⟨by rw [← HGV.out, hg]; rfl, rfl⟩
    case rest =>
    obtain ⟨rfl, rfl⟩ := hcut
    have n3 := HN0.out.cell 3
    go_wp2_with fail
    go_loopw [6, 7] (fun o z wr => ∃ (i : Nat) (acc : List UInt8), z = .int .i64 i ∧ o = .string (strOf acc) ∧ i ≤ ns.length ∧ WrMid 91 ks ns how acc i ∧ Below W0.heap.size W0 wr) (fun _ z _ => ns.length - (intOf z).toNat)
    case atStart => exact ⟨0, 91 :: gapL how, rfl, congrArg Value.string (HGA.out [91]), Nat.zero_le _, rfl, (Below.refl _ _).alloc (Nat.le_refl _) _⟩
    case round =>
      obtain ⟨i, acc, rfl, rfl, hi, hM, hb⟩ := hrel
      have hal := hM.len HTK.out HTL.out HZ.out.1
      have HM := Lib.hid hM
      have HB := Lib.hid hb
      have hbw := HB0.out.trans (hb.mono HB0.out.size)
      have HNr := HN0.out.below hb HN0.out.lt
      clear n0 n3 hM
      have hAz : (strOf acc).size ≤ 80000 := by rw [strOf_size]; exact hal
      by_cases hlt : i < ns.length
      · have m0 : wr.cell? ⟨w.heap.size, 0, none⟩ = some (.int .u8 91) := HNr.cell 0
        have m2 := HNr.cell 2
        have m3 := HNr.cell 3
        obtain ⟨A, hA⟩ : ∃ A, strOf acc = A := ⟨_, rfl⟩
        have HA := Lib.hid hA
        rw [hA] at hAz
        rw [hA]
        clear hA HNr hb
        go_upto_if 43 with fail
        go_cut [6] (fun v wx => v = .string (strOf (acc ++ commaL how i)) ∧ wr = wx)
        case first =>
          by_cases h0 : 0 < i
          · have h0' : (0 : Int) < (i : Int) := by omega
            have HKV : Hid (A ++ strOf [44] ++ g = strOf (acc ++ commaL how i)) := by
              show _ = _
              rw [← HA.out, strOf_append, HGA.out]
              unfold commaL
              rw [if_pos h0]
              simp
            go_wp2_with fail
            go_meet
            exact ⟨congrArg Value.string HKV.out, rfl⟩
          · have h0' : ¬ (0 : Int) < (i : Int) := by omega
            have HKV : Hid (A = strOf (acc ++ commaL how i)) := by
              show _ = _
              rw [← HA.out]
              unfold commaL
              rw [if_neg h0, List.append_nil]
            go_wp2_with fail
            go_meet
            exact ⟨congrArg Value.string HKV.out, rfl⟩
        case rest =>
        obtain ⟨rfl, rfl⟩ := hcut
        have hcz : (strOf (acc ++ commaL how i)).size ≤ 80003 := by
          rw [strOf_size, List.length_append]
          have : (commaL how i).length ≤ 3 := by unfold commaL; have := gap_le how; split <;> simp <;> omega
          omega
        obtain ⟨A2, hA2⟩ : ∃ A2, strOf (acc ++ commaL how i) = A2 := ⟨_, rfl⟩
        have HAC := Lib.hid hA2
        rw [hA2] at hcz
        rw [hA2]
        clear hA2 hAz
        go_upto_if 57 with fail
        go_cut [6] (fun v wx => v = .string (strOf (acc ++ commaL how i ++ keyL 91 how ks i)) ∧ Below wr.heap.size wr wx)
        case first =>
          have HKV : Hid (strOf (acc ++ commaL how i) = strOf (acc ++ commaL how i ++ keyL 91 how ks i)) := by
            show _ = _
            unfold keyL
            rw [if_neg (by omega), List.append_nil]
          rw [HAC.out] at HKV
          go_wp2_with fail
          go_meet
          exact ⟨congrArg Value.string HKV.out, Below.refl _ _⟩
        case rest =>
        obtain ⟨rfl, b4⟩ := hcut
        have hb4 := HB.out.trans (b4.mono HB.out.size)
        have HN4 := HN0.out.below hb4 HN0.out.lt
        have r3 := HN4.cell 3
        have hcz2 : (strOf (acc ++ commaL how i ++ keyL 91 how ks i)).size ≤ 90000 := by
          rw [strOf_size, List.length_append, List.length_append]
          have : (commaL how i).length ≤ 3 := by unfold commaL; have := gap_le how; split <;> simp <;> omega
          have := keyL_le (q := 91) (how := how) (i := i) HTK.out
          omega
        obtain ⟨n, hn⟩ : ∃ n, ns[i]? = some n := ⟨_, List.getElem?_eq_getElem hlt⟩
        obtain ⟨g2, o, _, e0, e1, e2, e3, hv, p0, p1, p2, p3, hNn⟩ := kidA_at HR.out HKd.out hn (HB0.out.trans (hb4.mono HB0.out.size))
        simp only [Value.slice.injEq] at hv
        obtain ⟨rfl, _, rfl⟩ := hv
        obtain ⟨hT1, hT2⟩ := HZ.out.2 i n hn
        have HC := Lib.hid (HF.out i n hn (how / 2) ok e0 e1 e2 e3 wc (by omega) hNn hT1 hT2)
        have hnz : (strOf (wrN n (how / 2))).size ≤ 80000 := by rw [strOf_size]; exact written_small _ hT1 hT2
        have HM2 := Lib.hid (HM.out.step hn)
        have HST : Hid (strOf (acc ++ commaL how i ++ keyL 91 how ks i) ++ strOf (wrN n (how / 2)) = strOf (acc ++ commaL how i ++ keyL 91 how ks i ++ wrN n (how / 2))) := strOf_append _ _
        have hhq : ((how / 2 : Nat) : Int) = (how : Int) / 2 := by omega
        rw [hhq] at HC
        have HB5 := Lib.hid hb4
        obtain ⟨A3, hA3⟩ : ∃ A3, strOf (acc ++ commaL how i ++ keyL 91 how ks i) = A3 := ⟨_, rfl⟩
        obtain ⟨A4, hA4⟩ : ∃ A4, strOf (wrN n (how / 2)) = A4 := ⟨_, rfl⟩
        rw [hA3, hA4] at HST
        rw [hA3] at hcz2 ⊢
        rw [hA4] at hnz HC
        clear hA3 hA4 hhq hn hNn hT1 hT2 hb4 HN4 b4 m0 m2 m3 hcz hbw
        go_wp2_with fail
        refine (HC.out).mono ?_
        rintro e w5 ⟨rfl, b5⟩
        go_wp2_with fail
        go_roundw
        case rel => exact ⟨i + 1, _, by go_num, congrArg Value.string HST.out, hlt, HM2.out, HB5.out.trans (b5.mono HB5.out.size)⟩
        case measure => simp [intOf]; omega
      · have m0 : wr.cell? ⟨w.heap.size, 0, none⟩ = some (.int .u8 91) := HNr.cell 0
        have m3 := HNr.cell 3
        have HE : Hid (strOf acc ++ g ++ strOf [93] = strOf (wrN (.mk 91 t ks ns) how)) := by
          show _ = _
          rw [HGA.out, strOf_append]
          congr 1
          have h := HM.out
          unfold WrMid at h
          rw [List.drop_of_length_le (by omega)] at h
          simp only [wrL, List.append_nil] at h
          rw [HV.out, h]
          simp only [List.cons_append, List.append_assoc]
          rfl
        obtain ⟨A, hA⟩ : ∃ A, strOf acc = A := ⟨_, rfl⟩
        rw [hA] at hAz HE
        rw [hA]
        clear hA HNr hb
        go_wp2_with fail
        go_ret
        exact ⟨by rw [← HE.out]; rfl, HB0.out.trans (HB.out.mono HB0.out.size)⟩
  · rw [show ((123 : Nat) : Int) = 123 from rfl] at HB0 HN0 ⊢
    go_enter Try.func21, Try.ntmps21
    go_upto_region 1 with fail
    generalize hW : w.alloc (.cells #[.int .u8 123, .string x, .slice o1 ks.length c1, .slice o2 ns.length c2] 44) = W0 at *
    clear hW
    have n0 : W0.cell? ⟨w.heap.size, 0, none⟩ = some (.int .u8 123) := HN0.out.cell 0
    go_upto_if 10 with fail
    go_cut [5] (fun v wx => v = .string g ∧ W0 = wx)
    case first =>
      rcases HG.out with ⟨h, hg⟩ | ⟨h, hg⟩
      · have hm : ((how : Int).tmod 2 == 1) = true := by rw [show (how : Int).tmod 2 = ((how % 2 : Nat) : Int) from rfl, h]; rfl
        clear HG n0
        go_wp2_with fail
        go_meet
        exact ⟨by rw [← HGV.out, hg]; rfl, rfl⟩
      · have hm : ((how : Int).tmod 2 == 1) = false := by rw [show (how : Int).tmod 2 = ((how % 2 : Nat) : Int) from rfl]; simp; omega
        clear HG n0
        go_wp2_with fail
        go_meet
        exact ⟨by rw [← HGV.out, hg]; rfl, rfl⟩
    case rest =>
    obtain ⟨rfl, rfl⟩ := hcut
    have n3 := HN0.out.cell 3
    go_wp2_with fail
    go_loopw [6, 7] (fun o z wr => ∃ (i : Nat) (acc : List UInt8), z = .int .i64 i ∧ o = .string (strOf acc) ∧ i ≤ ns.length ∧ WrMid 123 ks ns how acc i ∧ Below W0.heap.size W0 wr) (fun _ z _ => ns.length - (intOf z).toNat)
    case atStart => exact ⟨0, 123 :: gapL how, rfl, congrArg Value.string (HGA.out [123]), Nat.zero_le _, rfl, (Below.refl _ _).alloc (Nat.le_refl _) _⟩
    case round =>
      obtain ⟨i, acc, rfl, rfl, hi, hM, hb⟩ := hrel
      have hal := hM.len HTK.out HTL.out HZ.out.1
      have HM := Lib.hid hM
      have HB := Lib.hid hb
      have hbw := HB0.out.trans (hb.mono HB0.out.size)
      have HNr := HN0.out.below hb HN0.out.lt
      clear n0 n3 hM
      have hAz : (strOf acc).size ≤ 80000 := by rw [strOf_size]; exact hal
      by_cases hlt : i < ns.length
      · have m0 : wr.cell? ⟨w.heap.size, 0, none⟩ = some (.int .u8 123) := HNr.cell 0
        have m2 := HNr.cell 2
        have m3 := HNr.cell 3
        obtain ⟨A, hA⟩ : ∃ A, strOf acc = A := ⟨_, rfl⟩
        have HA := Lib.hid hA
        rw [hA] at hAz
        rw [hA]
        clear hA HNr hb
        go_upto_if 43 with fail
        go_cut [6] (fun v wx => v = .string (strOf (acc ++ commaL how i)) ∧ wr = wx)
        case first =>
          by_cases h0 : 0 < i
          · have h0' : (0 : Int) < (i : Int) := by omega
            have HKV : Hid (A ++ strOf [44] ++ g = strOf (acc ++ commaL how i)) := by
              show _ = _
              rw [← HA.out, strOf_append, HGA.out]
              unfold commaL
              rw [if_pos h0]
              simp
            go_wp2_with fail
            go_meet
            exact ⟨congrArg Value.string HKV.out, rfl⟩
          · have h0' : ¬ (0 : Int) < (i : Int) := by omega
            have HKV : Hid (A = strOf (acc ++ commaL how i)) := by
              show _ = _
              rw [← HA.out]
              unfold commaL
              rw [if_neg h0, List.append_nil]
            go_wp2_with fail
            go_meet
            exact ⟨congrArg Value.string HKV.out, rfl⟩
        case rest =>
        obtain ⟨rfl, rfl⟩ := hcut
        have hcz : (strOf (acc ++ commaL how i)).size ≤ 80003 := by
          rw [strOf_size, List.length_append]
          have : (commaL how i).length ≤ 3 := by unfold commaL; have := gap_le how; split <;> simp <;> omega
          omega
        obtain ⟨A2, hA2⟩ : ∃ A2, strOf (acc ++ commaL how i) = A2 := ⟨_, rfl⟩
        have HAC := Lib.hid hA2
        rw [hA2] at hcz
        rw [hA2]
        clear hA2 hAz
        go_upto_if 57 with fail
        go_cut [6] (fun v wx => v = .string (strOf (acc ++ commaL how i ++ keyL 123 how ks i)) ∧ Below wr.heap.size wr wx)
        case first =>
          by_cases hkl : i < ks.length
          · obtain ⟨u, hu⟩ : ∃ u, ks[i]? = some u := ⟨_, List.getElem?_eq_getElem hkl⟩
            have hul : u.length ≤ 100 := HTK.out u (List.mem_of_getElem? hu)
            obtain ⟨ao, cap, hv, hc⟩ := txtA_below HTX.out hbw
            obtain ⟨g1, o, rfl, hg1, d1⟩ := hc i u hu
            simp only [Value.slice.injEq] at hv
            obtain ⟨rfl, _, rfl⟩ := hv
            have HKV : Hid (strOf (acc ++ commaL how i) ++ strOf [34] ++ strOf (writeJ u) ++ strOf [34] ++ strOf (gapL how) ++ strOf [58] ++ strOf (gapL how) = strOf (acc ++ commaL how i ++ keyL 123 how ks i)) := by
              show _ = _
              simp only [strOf_append]
              congr 1
              unfold keyL
              rw [if_pos ⟨rfl, hkl⟩, List.getD_eq_getElem?_getD, hu]
              simp [strL]
            have HC := Lib.hid (fun w => HX.out u w hul)
            rw [strOf_list] at HC
            have hyz : (strOf (writeJ u)).size ≤ 600 := by rw [strOf_size]; exact HSK.out u (List.mem_of_getElem? hu)
            obtain ⟨y, hy⟩ : ∃ y, strOf (writeJ u) = y := ⟨_, rfl⟩
            rw [hy, HGV.out] at HKV
            rw [hy] at HC hyz
            obtain ⟨u', hu'⟩ : ∃ u', strOf u = u' := ⟨_, rfl⟩
            rw [hu'] at HC d1
            rw [HAC.out] at HKV
            clear hu' hy hu hc hul
            go_wp2_with fail
            refine (HC.out _).mono ?_
            rintro e w3 ⟨rfl, b3⟩
            go_wp2_with fail
            go_meet
            exact ⟨congrArg Value.string HKV.out, b3⟩
          · have HKV : Hid (strOf (acc ++ commaL how i) = strOf (acc ++ commaL how i ++ keyL 123 how ks i)) := by
              show _ = _
              unfold keyL
              rw [if_neg (by omega), List.append_nil]
            rw [HAC.out] at HKV
            go_wp2_with fail
            go_meet
            exact ⟨congrArg Value.string HKV.out, Below.refl _ _⟩
        case rest =>
        obtain ⟨rfl, b4⟩ := hcut
        have hb4 := HB.out.trans (b4.mono HB.out.size)
        have HN4 := HN0.out.below hb4 HN0.out.lt
        have r3 := HN4.cell 3
        have hcz2 : (strOf (acc ++ commaL how i ++ keyL 123 how ks i)).size ≤ 90000 := by
          rw [strOf_size, List.length_append, List.length_append]
          have : (commaL how i).length ≤ 3 := by unfold commaL; have := gap_le how; split <;> simp <;> omega
          have := keyL_le (q := 123) (how := how) (i := i) HTK.out
          omega
        obtain ⟨n, hn⟩ : ∃ n, ns[i]? = some n := ⟨_, List.getElem?_eq_getElem hlt⟩
        obtain ⟨g2, o, _, e0, e1, e2, e3, hv, p0, p1, p2, p3, hNn⟩ := kidA_at HR.out HKd.out hn (HB0.out.trans (hb4.mono HB0.out.size))
        simp only [Value.slice.injEq] at hv
        obtain ⟨rfl, _, rfl⟩ := hv
        obtain ⟨hT1, hT2⟩ := HZ.out.2 i n hn
        have HC := Lib.hid (HF.out i n hn (how / 2) ok e0 e1 e2 e3 wc (by omega) hNn hT1 hT2)
        have hnz : (strOf (wrN n (how / 2))).size ≤ 80000 := by rw [strOf_size]; exact written_small _ hT1 hT2
        have HM2 := Lib.hid (HM.out.step hn)
        have HST : Hid (strOf (acc ++ commaL how i ++ keyL 123 how ks i) ++ strOf (wrN n (how / 2)) = strOf (acc ++ commaL how i ++ keyL 123 how ks i ++ wrN n (how / 2))) := strOf_append _ _
        have hhq : ((how / 2 : Nat) : Int) = (how : Int) / 2 := by omega
        rw [hhq] at HC
        have HB5 := Lib.hid hb4
        obtain ⟨A3, hA3⟩ : ∃ A3, strOf (acc ++ commaL how i ++ keyL 123 how ks i) = A3 := ⟨_, rfl⟩
        obtain ⟨A4, hA4⟩ : ∃ A4, strOf (wrN n (how / 2)) = A4 := ⟨_, rfl⟩
        rw [hA3, hA4] at HST
        rw [hA3] at hcz2 ⊢
        rw [hA4] at hnz HC
        clear hA3 hA4 hhq hn hNn hT1 hT2 hb4 HN4 b4 m0 m2 m3 hcz hbw
        go_wp2_with fail
        refine (HC.out).mono ?_
        rintro e w5 ⟨rfl, b5⟩
        go_wp2_with fail
        go_roundw
        case rel => exact ⟨i + 1, _, by go_num, congrArg Value.string HST.out, hlt, HM2.out, HB5.out.trans (b5.mono HB5.out.size)⟩
        case measure => simp [intOf]; omega
      · have m0 : wr.cell? ⟨w.heap.size, 0, none⟩ = some (.int .u8 123) := HNr.cell 0
        have m3 := HNr.cell 3
        have HE : Hid (strOf acc ++ g ++ strOf [125] = strOf (wrN (.mk 123 t ks ns) how)) := by
          show _ = _
          rw [HGA.out, strOf_append]
          congr 1
          have h := HM.out
          unfold WrMid at h
          rw [List.drop_of_length_le (by omega)] at h
          simp only [wrL, List.append_nil] at h
          rw [HV.out, h]
          simp only [List.cons_append, List.append_assoc]
          rfl
        obtain ⟨A, hA⟩ : ∃ A, strOf acc = A := ⟨_, rfl⟩
        rw [hA] at hAz HE
        rw [hA]
        clear hA HNr hb
        go_wp2_with fail
        go_ret
        exact ⟨by rw [← HE.out]; rfl, HB0.out.trans (HB.out.mono HB0.out.size)⟩
mutual
theorem write_any : ∀ n : Node, WriteC n
  | .mk q t ks ns => by
    by_cases hq : q = 91 ∨ q = 123
    · exact write_row q t ks ns hq fun j n hj => write_all ns j n hj
    · exact write_leaf q t ks ns hq
theorem write_all : ∀ (ns : List Node) (j : Nat) (n : Node), ns[j]? = some n → WriteC n
  | [], j, n, h => by simp at h
  | m :: ns, 0, n, h => by
    have h1 : m = n := by simpa using h
    rw [← h1]; exact write_any m
  | m :: ns, j + 1, n, h => write_all ns j n (by simpa using h)
end
end Go.Proofs.Ytjnmcadfaombjaa

/- Walks: the law JsonBack (chapter 10). -/
namespace Go.Proofs.Ytjnmcadfaombjaa
open Go.RowKit
set_option linter.unusedVariables false
set_option linter.unusedSimpArgs false
set_option linter.constructorNameAsVariable false
theorem NodeW.belowB {w w' : World} {B : Nat} {n : Node} {v : Value} (h : NodeW w (fun g => B ≤ g) n v) (hb : Below w.heap.size w w') : NodeW w' (fun g => B ≤ g) n v :=
  NodeW.mono (fun g hg hl => ⟨hg, Nat.lt_of_lt_of_le hl hb.size, hb.block g hl⟩) n v h
mutual
theorem lightN_tiny : ∀ (n : Node) (l d r : Nat), lightN n l d = some r → TinyN n
  | .mk q t ks ns, l, d, r, h => by
    rw [lightN] at h
    split at h
    · cases h
    · rename_i h1
      have hL := lightL_tiny ns (l - 1) (d - 1) r h
      simp only [not_or, not_exists, not_and, Nat.not_lt] at h1
      obtain ⟨h1, h2, h3, h4, h5, h6⟩ := h1
      unfold TinyN
      exact ⟨⟨by omega, fun k hk => by have := h6 k hk; omega⟩, hL⟩
theorem lightL_tiny : ∀ (ns : List Node) (l d r : Nat), lightL ns l d = some r → TinyL ns
  | [], l, d, r, h => by unfold TinyL; trivial
  | n :: ns, l, d, r, h => by
    rw [lightL] at h
    cases hn : lightN n l d with
    | none => rw [hn] at h; cases h
    | some r' =>
      rw [hn] at h
      unfold TinyL
      exact ⟨lightN_tiny n l d r' hn, lightL_tiny ns r' d r h⟩
end
set_option maxRecDepth 100000 in
set_option maxHeartbeats 16000000 in
theorem lawBack (n : Node) (how : Nat) (a0 a1 a2 a3 : Value) (w : World) (ha : NodeA w (fun _ => True) n (.agg #[a0, a1, a2, a3])) (hh : how ≤ 65535) :
    Calls Try.prog 6 #[.agg #[a0, a1, a2, a3], .int .u16 how] w fun e w' => e = .returned (.bool true) ∧ Below w.heap.size w w' := by
  obtain ⟨v1, v2, v3, v4, v5, v6, v7, v8, rfl, rfl, rfl, rfl⟩ := nodeA_shape ha
  have hb1 := (Below.refl w.heap.size w).alloc (Nat.le_refl _) (.cells #[.int .u8 v1, .string v2, .slice v3 v4 v5, .slice v6 v7 v8] 44)
  have HX := Lib.hid (Blk.new w 44 #[.int .u8 v1, .string v2, .slice v3 v4 v5, .slice v6 v7 v8])
  have NA := Lib.hid (nodeA_below ha hb1)
  have HB := Lib.hid hb1
  have HAW := Lib.hid awake10_any
  clear ha hb1
  go_enter Try.func6, Try.ntmps6
  go_upto_region 1 with fail
  generalize hW : w.alloc (.cells #[.int .u8 v1, .string v2, .slice v3 v4 v5, .slice v6 v7 v8] 44) = W0 at *
  clear hW
  have hx0 := HX.out.cell 0
  have hx1 := HX.out.cell 1
  have hx2 := HX.out.cell 2
  have hx3 := HX.out.cell 3
  rcases light_said n with HL | ⟨r, hsn, hz, hlr, HL⟩
  · go_wp2_with fail
    refine (HL.out _ _ _ _ _ _ NA.out).mono ?_
    rintro e w3 ⟨rfl, q⟩
    have HB3 := Lib.hid (HB.out.trans (q.mono HB.out.size))
    clear q hx0 hx1 hx2 hx3
    go_wp2_with fail
    refine (HAW.out _).mono ?_
    rintro e w4 ⟨rfl, q⟩
    go_wp2_with fail
    go_ret
    exact ⟨rfl, HB3.out.trans (q.mono HB3.out.size)⟩
  have HSN := Lib.hid hsn
  have HTN := Lib.hid (lightN_tiny _ _ _ _ hlr)
  have HDN : Hid (deepN n ≤ 40) := (lightN_small n 60 40 r hlr).2.2
  have HZ : Hid (sizeN n ≤ 60) := hz
  clear hsn hz hlr
  have JI : Hid (∀ ok a b c e w, NodeA w ok n (.agg #[a, b, c, e]) → Calls Try.prog 17 #[.agg #[a, b, c, e]] w fun x w' => x = .returned (.bool (fitsN n 1)) ∧ Below w.heap.size w w') :=
    fun ok a b c e w h => jisA_any n ok a b c e w h HSN.out
  have RI : Hid (∀ ok a b c e w, NodeA w ok n (.agg #[a, b, c, e]) → Calls Try.prog 19 #[.agg #[a, b, c, e]] w fun x w' => x = .returned (.bool (fitsN n 1)) ∧ Below w.heap.size w w') :=
    fun ok a b c e w h => risn_any n ok a b c e w h HSN.out (by have := HZ.out; omega)
  have MA : Hid (∀ (ok : Nat → Prop) (a b c e : Value) (w : World), NodeA w ok n (.agg #[a, b, c, e]) → Calls Try.prog 20 #[.agg #[a, b, c, e]] w fun x w' => (∃ a' b' c' e', x = .returned (.agg #[a', b', c', e']) ∧ NodeA w' (fun g => (ok g ∧ g < w.heap.size) ∨ w.heap.size ≤ g) n (.agg #[a', b', c', e'])) ∧ Below w.heap.size w w') :=
    fun ok a b c e w h => mine_any n ok a b c e w h HSN.out
  go_wp2_with fail
  refine (HL.out _ _ _ _ _ _ NA.out).mono ?_
  rintro e w3 ⟨rfl, q⟩
  have HB3 := Lib.hid (HB.out.trans (q.mono HB.out.size))
  have NA3 := Lib.hid (nodeA_below NA.out q)
  have HX3 := Lib.hid (HX.out.below q HX.out.lt)
  clear q hx0 hx1 hx2 hx3 HX NA HB HL
  have hx0 := HX3.out.cell 0
  have hx1 := HX3.out.cell 1
  have hx2 := HX3.out.cell 2
  have hx3 := HX3.out.cell 3
  go_upto_region 4 with fail
  cases hff : fitsN n 1 with
  | false =>
    rw [hff] at JI RI
    clear hff
    go_wp2_with fail
    refine (RI.out _ _ _ _ _ _ NA3.out).mono ?_
    rintro e w4 ⟨rfl, q⟩
    have HB4 := Lib.hid (HB3.out.trans (q.mono HB3.out.size))
    have NA4 := Lib.hid (nodeA_below NA3.out q)
    have HX4 := HX3.out.below q HX3.out.lt
    clear q hx0 hx1 hx2 hx3
    have hx0 := HX4.cell 0
    have hx1 := HX4.cell 1
    have hx2 := HX4.cell 2
    have hx3 := HX4.cell 3
    clear HX4
    go_wp2_with fail
    refine (MA.out _ _ _ _ _ _ NA4.out).mono ?_
    rintro e w5 ⟨⟨c1, c2, c3, c4, rfl, hq⟩, q⟩
    obtain ⟨z1, z2, z3, z4, z5, z6, z7, z8, rfl, rfl, rfl, rfl⟩ := nodeA_shape hq
    have HB5 := Lib.hid (HB4.out.trans (q.mono HB4.out.size))
    have NQ := Lib.hid hq
    clear q hx0 hx1 hx2 hx3 hq
    go_wp2_with fail
    refine (JI.out _ _ _ _ _ _ NQ.out).mono ?_
    rintro e w6 ⟨rfl, q⟩
    have HB6 := Lib.hid (HB5.out.trans (q.mono HB5.out.size))
    clear q
    go_wp2_with fail
    refine (HAW.out _).mono ?_
    rintro e w7 ⟨rfl, q⟩
    go_wp2_with fail
    go_ret
    exact ⟨rfl, HB6.out.trans (q.mono HB6.out.size)⟩
  | true =>
    have HWR : Hid (∀ w, NodeA w (fun _ => True) n (.agg #[.int .u8 v1, .string v2, .slice v3 v4 v5, .slice v6 v7 v8]) → Calls Try.prog 21 #[.agg #[.int .u8 v1, .string v2, .slice v3 v4 v5, .slice v6 v7 v8], .int .i64 how] w fun x w' => x = .returned (.string (strOf (wrN n how))) ∧ Below w.heap.size w w') :=
      fun w h => write_any n how _ _ _ _ _ w hh h HTN.out HZ.out
    have hws : (strOf (wrN n how)).size ≤ 100000 := by rw [strOf_size]; have := written_small how HTN.out HZ.out; omega
    have HPA : Hid (∀ w, Calls Try.prog 13 #[.string (strOf (wrN n how))] w fun e w' => (∃ a b d f : Value, e = .returned (.tuple #[.agg #[a, b, d, f], .int .i64 0]) ∧ NodeW w' (fun g => w.heap.size ≤ g) n (.agg #[a, b, d, f])) ∧ Below w.heap.size w w') := by
      intro w
      have h := jparse_any (strOf (wrN n how)) w hws
      rw [strOf_list, back_parse how hff] at h
      exact h
    rw [hff] at JI RI
    clear hff
    generalize strOf (wrN n how) = T at *
    go_wp2_with fail
    refine (RI.out _ _ _ _ _ _ NA3.out).mono ?_
    rintro e w4 ⟨rfl, q⟩
    have HB4 := Lib.hid (HB3.out.trans (q.mono HB3.out.size))
    have NA4 := Lib.hid (nodeA_below NA3.out q)
    have HX4 := Lib.hid (HX3.out.below q HX3.out.lt)
    clear q hx0 hx1 hx2 hx3 HX3 NA3 HB3
    have hx0 := HX4.out.cell 0
    have hx1 := HX4.out.cell 1
    have hx2 := HX4.out.cell 2
    have hx3 := HX4.out.cell 3
    go_wp2_with fail
    refine (HWR.out _ NA4.out).mono ?_
    rintro e w5 ⟨rfl, q⟩
    have HB5 := Lib.hid (HB4.out.trans (q.mono HB4.out.size))
    have NA5 := Lib.hid (nodeA_below NA4.out q)
    have HX5 := Lib.hid (HX4.out.below q HX4.out.lt)
    clear q hx0 hx1 hx2 hx3 HX4 NA4 HB4
    go_wp2_with fail
    refine (HPA.out _).mono ?_
    rintro e w6 ⟨⟨va, vb, vc, vd, rfl, hq⟩, q⟩
    obtain ⟨u1, u2, u3, u4, u5, u6, u7, u8, rfl, rfl, rfl, rfl⟩ := node_shape hq
    have hb6 := HB5.out.trans (q.mono HB5.out.size)
    have HB6 := Lib.hid (hb6.alloc hb6.size (.cells #[.int .u8 u1, .string u2, .slice u3 u4 u5, .slice u6 u7 u8] 39))
    have bq := (Below.refl w6.heap.size w6).alloc (Nat.le_refl _) (.cells #[.int .u8 u1, .string u2, .slice u3 u4 u5, .slice u6 u7 u8] 39)
    have NA6 := Lib.hid (nodeA_below (nodeA_below NA5.out q) bq)
    have NB6 : Hid (NodeW (w6.alloc (.cells #[.int .u8 u1, .string u2, .slice u3 u4 u5, .slice u6 u7 u8] 39)) (fun g => w5.heap.size ≤ g) n (.agg #[.int .u8 u1, .string u2, .slice u3 u4 u5, .slice u6 u7 u8])) := node_alloc _ hq
    have HX6 := Lib.hid ((HX5.out.below q HX5.out.lt).alloc (.cells #[.int .u8 u1, .string u2, .slice u3 u4 u5, .slice u6 u7 u8] 39))
    have HY6 := Lib.hid (Blk.new w6 39 #[.int .u8 u1, .string u2, .slice u3 u4 u5, .slice u6 u7 u8])
    clear q hq hb6 bq HX5 NA5 HB5
    go_upto_region 7 with fail
    generalize hB2 : w6.heap.size = B2 at *
    generalize hW : w6.alloc (.cells #[.int .u8 u1, .string u2, .slice u3 u4 u5, .slice u6 u7 u8] 39) = w7 at *
    clear hW hB2
    have K1 : w7.drew.cell? ⟨w.heap.size, 0, none⟩ = some (.int .u8 v1) ∧ w7.drew.cell? ⟨w.heap.size, 1, none⟩ = some (.string v2) ∧ w7.drew.cell? ⟨w.heap.size, 2, none⟩ = some (.slice v3 v4 v5) ∧ w7.drew.cell? ⟨w.heap.size, 3, none⟩ = some (.slice v6 v7 v8) ∧ w7.drew.cell? ⟨B2, 0, none⟩ = some (.int .u8 u1) ∧ w7.drew.cell? ⟨B2, 1, none⟩ = some (.string u2) ∧ w7.drew.cell? ⟨B2, 2, none⟩ = some (.slice u3 u4 u5) ∧ w7.drew.cell? ⟨B2, 3, none⟩ = some (.slice u6 u7 u8) := ⟨HX6.out.cell 0, HX6.out.cell 1, HX6.out.cell 2, HX6.out.cell 3, HY6.out.cell 0, HY6.out.cell 1, HY6.out.cell 2, HY6.out.cell 3⟩
    have HK2 : Hid (∀ w', Below w7.drew.heap.size w7.drew w' → w'.cell? ⟨w.heap.size, 0, none⟩ = some (.int .u8 v1) ∧ w'.cell? ⟨w.heap.size, 1, none⟩ = some (.string v2) ∧ w'.cell? ⟨w.heap.size, 2, none⟩ = some (.slice v3 v4 v5) ∧ w'.cell? ⟨w.heap.size, 3, none⟩ = some (.slice v6 v7 v8) ∧ w'.cell? ⟨B2, 0, none⟩ = some (.int .u8 u1) ∧ w'.cell? ⟨B2, 1, none⟩ = some (.string u2) ∧ w'.cell? ⟨B2, 2, none⟩ = some (.slice u3 u4 u5) ∧ w'.cell? ⟨B2, 3, none⟩ = some (.slice u6 u7 u8)) := by
      intro w' h
      have h2 := below_drewS h
      have h3 := HX6.out.below h2 HX6.out.lt
      have h4 := HY6.out.below h2 HY6.out.lt
      exact ⟨h3.cell 0, h3.cell 1, h3.cell 2, h3.cell 3, h4.cell 0, h4.cell 1, h4.cell 2, h4.cell 3⟩
    have JA : Hid (∀ ok ok' a0 a1 a2 a3 b0 b1 b2 b3 w, NodeA w ok n (.agg #[a0, a1, a2, a3]) → NodeA w ok' n (.agg #[b0, b1, b2, b3]) → Calls Try.prog 22 #[.agg #[a0, a1, a2, a3], .agg #[b0, b1, b2, b3]] w fun e w' => e = .returned (.bool true) ∧ Below w.heap.size w w') :=
      fun ok ok' a0 a1 a2 a3 b0 b1 b2 b3 w h1 h2 => jsame_self n ok ok' _ _ _ _ _ _ _ _ w h1 h2 HSN.out
    have RS : Hid (∀ ok ok' a0 a1 a2 a3 b0 b1 b2 b3 w, NodeA w ok n (.agg #[a0, a1, a2, a3]) → NodeA w ok' n (.agg #[b0, b1, b2, b3]) → Calls Try.prog 15 #[.agg #[a0, a1, a2, a3], .agg #[b0, b1, b2, b3]] w fun e w' => e = .returned (.bool true) ∧ Below w.heap.size w w') :=
      fun ok ok' a0 a1 a2 a3 b0 b1 b2 b3 w h1 h2 => by
        have h := sameA_any n n ok ok' _ _ _ _ _ _ _ _ w h1 h2 HSN.out HSN.out
        rw [sameN_self] at h
        exact h
    have HI : Hid (∀ w', Below w7.drew.heap.size w7.drew w' → Calls Try.prog 16 #[.agg #[.int .u8 u1, .string u2, .slice u3 u4 u5, .slice u6 u7 u8], .int .i64 40] w' fun x w2 => (∃ a' b' c' e', x = .returned (.agg #[a', b', c', e']) ∧ NodeA w2 (fun g => (w5.heap.size ≤ g ∧ g < w'.heap.size) ∨ w'.heap.size ≤ g) n (.agg #[a', b', c', e'])) ∧ Below w'.heap.size w' w2) := by
      intro w' hk
      have hn : NodeW w' (fun g => w5.heap.size ≤ g) n (.agg #[.int .u8 u1, .string u2, .slice u3 u4 u5, .slice u6 u7 u8]) := (NodeW.belowB NB6.out (below_drewS hk))
      refine (its_any n 40 (fun g => w5.heap.size ≤ g) _ _ _ _ w' (by omega) (by have := HDN.out; omega) hn HSN.out).mono ?_
      rintro e w2 ⟨⟨a', b', c', e', h1, h2⟩, h3⟩
      exact ⟨⟨a', b', c', e', h1, NodeW.toA _ _ h2⟩, h3⟩
    have k := Below.refl w7.drew.heap.size w7.drew
    have na := nodeA_drew NA6.out
    have nb := nodeA_drew (NodeW.toA _ _ NB6.out)
    clear HX6 HY6 NA6 NB6
    go_region_held3 (fun w' => w'.cell? ⟨w.heap.size, 0, none⟩ = some (.int .u8 v1) ∧ w'.cell? ⟨w.heap.size, 1, none⟩ = some (.string v2) ∧ w'.cell? ⟨w.heap.size, 2, none⟩ = some (.slice v3 v4 v5) ∧ w'.cell? ⟨w.heap.size, 3, none⟩ = some (.slice v6 v7 v8) ∧ w'.cell? ⟨B2, 0, none⟩ = some (.int .u8 u1) ∧ w'.cell? ⟨B2, 1, none⟩ = some (.string u2) ∧ w'.cell? ⟨B2, 2, none⟩ = some (.slice u3 u4 u5) ∧ w'.cell? ⟨B2, 3, none⟩ = some (.slice u6 u7 u8)) (first | (with_reducible exact K1) | (exact HK2.out _ k)) (first | (go_at_call 20; (with_reducible refine (MA.out _ _ _ _ _ _ na ).mono ?_); rintro e wq ⟨⟨c1, c2, c3, c4, rfl, hq⟩, q⟩; obtain ⟨z1, z2, z3, z4, z5, z6, z7, z8, rfl, rfl, rfl, rfl⟩ := nodeA_shape hq; have k := k.trans (q.mono k.size); have na := nodeA_below na q; (try (have nb := nodeA_below nb q)); (try (have nA := nodeA_below nA q)); (try (have nB := nodeA_below nB q)); (try (have nC := nodeA_below nC q)); (try (have nD := nodeA_below nD q)); (try (have nE := nodeA_below nE q)); (first | (have hz := nA; clear hz; have nB := hq; clear hq) | (have nA := hq; clear hq))) | (go_at_call 17; first | (with_reducible refine (JI.out _ _ _ _ _ _ nA).mono ?_); rintro e wq ⟨rfl, q⟩; have k := k.trans (q.mono k.size); have na := nodeA_below na q; (try (have nb := nodeA_below nb q)); (try (have nA := nodeA_below nA q)); (try (have nB := nodeA_below nB q)); (try (have nC := nodeA_below nC q)); (try (have nD := nodeA_below nD q)); (try (have nE := nodeA_below nE q))) | (go_at_call 22; first | (with_reducible refine (JA.out _ _ _ _ _ _ _ _ _ _ _ nb nB).mono ?_); rintro e wq ⟨rfl, q⟩; have k := k.trans (q.mono k.size); have na := nodeA_below na q; (try (have nb := nodeA_below nb q)); (try (have nA := nodeA_below nA q)); (try (have nB := nodeA_below nB q)); (try (have nC := nodeA_below nC q)); (try (have nD := nodeA_below nD q)); (try (have nE := nodeA_below nE q))) | (go_at_call 16; (with_reducible refine (HI.out _ k).mono ?_); rintro e wq ⟨⟨c1, c2, c3, c4, rfl, hq⟩, q⟩; obtain ⟨z1, z2, z3, z4, z5, z6, z7, z8, rfl, rfl, rfl, rfl⟩ := nodeA_shape hq; have k := k.trans (q.mono k.size); have na := nodeA_below na q; (try (have nb := nodeA_below nb q)); (try (have nA := nodeA_below nA q)); (try (have nB := nodeA_below nB q)); (try (have nC := nodeA_below nC q)); (try (have nD := nodeA_below nD q)); (try (have nE := nodeA_below nE q)); have nC := hq; clear hq) | (go_at_call 15; first | (with_reducible refine (RS.out _ _ _ _ _ _ _ _ _ _ _ nC na).mono ?_); rintro e wq ⟨rfl, q⟩; have k := k.trans (q.mono k.size); have na := nodeA_below na q; (try (have nb := nodeA_below nb q)); (try (have nA := nodeA_below nA q)); (try (have nB := nodeA_below nB q)); (try (have nC := nodeA_below nC q)); (try (have nD := nodeA_below nD q)); (try (have nE := nodeA_below nE q))) | (go_at_call 12; first | (with_reducible refine (HAW.out _).mono ?_); rintro e wq ⟨rfl, q⟩; have k := k.trans (q.mono k.size); have na := nodeA_below na q; (try (have nb := nodeA_below nb q)); (try (have nA := nodeA_below nA q)); (try (have nB := nodeA_below nB q)); (try (have nC := nodeA_below nC q)); (try (have nD := nodeA_below nD q)); (try (have nE := nodeA_below nE q))))
    go_wp2_with fail
    go_ret
    exact ⟨rfl, HB6.out.trans ((below_drewS k).mono HB6.out.size)⟩
end Go.Proofs.Ytjnmcadfaombjaa
