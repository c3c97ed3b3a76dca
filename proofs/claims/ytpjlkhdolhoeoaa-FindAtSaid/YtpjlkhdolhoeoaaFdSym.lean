/- Walks: two sorted ranges are merged in place, where one of them is of one element (the stable sort, chapter 03). -/
import Derived.Test.YtpjlkhdolhoeoaaFdRot
import Derived.Deep.DeepCutAuto
namespace Go.Proofs.Ytpjlkhdolhoeoaa
open Go.Shelf Go.RowKit Go.Lib Go.Sort
set_option linter.unusedVariables false
set_option linter.unusedSimpArgs false
variable {P : Program} {α : Type} [Inhabited α]
omit [Inhabited α] in
theorem ltOf_t {cf : α → α → Int} {x y : α} (h : cf x y < 0) : ltOf cf x y = true := decide_eq_true h
omit [Inhabited α] in
theorem ltOf_f {cf : α → α → Int} {x y : α} (h : ¬ cf x y < 0) : ltOf cf x y = false := decide_eq_false h
set_option maxHeartbeats 8000000 in
set_option maxRecDepth 1000000 in
theorem symFirst {k : Nat} (L : MgL P k) (enc : α → List Value) (cf : α → α → Int) (g : Nat) (cb : Array Value) (hO : SWO (ltOf cf)) (blk off cap a m b : Nat) (d0 d : Array α) (w0 w : World)
    (eg : ∀ args w, (callFunc g args).run P w = .ok (.enter g args) w) (hcmp : CmpLays P g cb enc k cf blk off d0.size w0) (R : RowK enc k w0 blk off d0) (hs : d0.size = d.size) (S : SWK enc k w0 blk off d w)
    (ham : m = a + 1) (hmb : m < b) (hb : b ≤ d.size) (hsz : d.size < 4611686018427387904) (s2 : SortedIn (ltOf cf) m b d) :
    Calls P 71 #[.slice (some ⟨blk, off, none⟩) d.size cap, .int .i64 a, .int .i64 m, .int .i64 b, .func (.func g) #[] cb] w fun e w' => e = .returned (.tuple #[]) ∧ ∃ d', PermIn a b d d' ∧ SortedIn (ltOf cf) a b d' ∧ SWK enc k w0 blk off d' w' := by
  have mixed := L.mixed; have t0 := L.t0; have a0 := L.a0; have z0 := L.z0; have v0 := L.v0; have t3 := L.t3; have a3 := L.a3; have z3 := L.z3; have v3 := L.v3; have t4 := L.t4; have a4 := L.a4; have z4 := L.z4; have v4 := L.v4; have t22 := L.t22; have a22 := L.a22; have z22 := L.z22; have v22 := L.v22; have t25 := L.t25; have a25 := L.a25; have z25 := L.z25; have v25 := L.v25; have t39 := L.t39; have a39 := L.a39; have z39 := L.z39; have v39 := L.v39; have aE := L.aE; have zE := L.zE
  have u22 := run_underlying L.t22
  have S0 : Aside (SWK enc k w0 blk off d w) := S
  have HC : Aside _ := hcmp
  have hA : (m : Int) - (a : Int) = 1 := by omega
  have SO : Aside (SortedIn (ltOf cf) m b d) := s2
  have AM : Aside (m = a + 1) := ham
  clear S hcmp s2
  have am1 : a < m := by omega
  clear ham
  go_enter L.fY, Try.ntmps71
  go_wp2_with fail
  go_loopg [10, 11] (b - m) (fun kx s10 s11 wr => ∃ (i j : Nat), s10 = .int .i64 i ∧ s11 = .int .i64 j ∧ m ≤ i ∧ i ≤ j ∧ j ≤ b ∧ j - i ≤ kx ∧ Aside ((i = m ∨ ltOf cf d[i - 1]! d[a]! = true) ∧ (j = b ∨ ltOf cf d[j]! d[a]! = false)) ∧ Aside (SWK enc k w0 blk off d wr))
  case atStart => exact ⟨m, b, rfl, rfl, Nat.le_refl _, by omega, Nat.le_refl _, by omega, ⟨.inl rfl, .inl rfl⟩, S0⟩
  case round =>
    clear S0
    obtain ⟨i, j, rfl, rfl, hmi, hij, hjb, hkx, HX, S1⟩ := hrel
    by_cases hlt : i < j
    · have hltz : (i : Int) < (j : Int) := by omega
      obtain ⟨h, hh⟩ : ∃ h, (i + j) / 2 = h := ⟨_, rfl⟩
      have hhz : ((i : Int) + (j : Int)) / 2 = (h : Int) := by omega
      have h1 : i ≤ h := by omega
      have h2 : h < j := by omega
      have h2z : (h : Int) < (d.size : Int) := by omega
      have a2z : (a : Int) < (d.size : Int) := by omega
      have rz : IntKind.i64.wrap (h : Int) = (h : Int) := by rw [IntKind.wrap_i64]; omega
      have raz : IntKind.i64.wrap (a : Int) = (a : Int) := by rw [IntKind.wrap_i64]; omega
      have HH : Aside ((i + j) / 2 = h) := hh
      have l1 := S1.out.ld R (by omega) P h (by omega)
      have l2 := S1.out.ld R (by omega) P a (by omega)
      have hcg := S1.out.cmp HC.out (by omega) d[h]! d[a]!
      have nh : (enc d[h]!).length = k := R.hk _
      have na : (enc d[a]!).length = k := R.hk _
      clear hh
      by_cases hlv : cf d[h]! d[a]! < 0
      · have hn := ltOf_t hlv
        have HN : Aside _ := hn
        clear hn
        generalize enc d[h]! = cH at l1 hcg nh
        generalize enc d[a]! = cA at l2 hcg na
        generalize cf d[h]! d[a]! = rr at hcg hlv
        go_upto_region 5 with fail
        go_quiet_grown (first | (go_at_fn g; refine Calls.grown_of (hcg _ _)))
        go_wp2_with fail
        go_roundg (j - (h + 1))
        case measure => omega
        case rel => exact ⟨h + 1, j, by go_num, rfl, by omega, by omega, hjb, Nat.le_refl _, ⟨.inr (by rw [Nat.add_sub_cancel]; exact HN.out), HX.out.2⟩, S1.out.grown nq osq⟩
      · have hn := ltOf_f hlv
        have HN : Aside _ := hn
        clear hn
        generalize enc d[h]! = cH at l1 hcg nh
        generalize enc d[a]! = cA at l2 hcg na
        generalize cf d[h]! d[a]! = rr at hcg hlv
        go_upto_region 5 with fail
        go_quiet_grown (first | (go_at_fn g; refine Calls.grown_of (hcg _ _)))
        go_wp2_with fail
        go_roundg (h - i)
        case measure => omega
        case rel => exact ⟨i, h, rfl, rfl, hmi, by omega, by omega, Nat.le_refl _, ⟨HX.out.1, .inr HN.out⟩, S1.out.grown nq osq⟩
    · have hltz : ¬ (i : Int) < (j : Int) := by omega
      have hje : j = i := by omega
      subst hje
      go_wp2_with fail
      go_loopg [13] (j - a) (fun kx s13 wr2 => ∃ (x : Nat) (dk : Array α), s13 = .int .i64 x ∧ a ≤ x ∧ x + 1 ≤ j ∧ j - x ≤ kx ∧ dk.size = d.size ∧ Aside (RotT a (a + 1) (x + 1) d dk) ∧ Aside (SWK enc k w0 blk off dk wr2))
      case atStart => exact ⟨a, d, rfl, Nat.le_refl _, by omega, by omega, rfl, RotT.refl d (by omega) (by omega) (.inr rfl), S1⟩
      case round =>
        clear S1
        obtain ⟨x, dk, rfl, hax, hxj, hkx2, hds, HT, S1⟩ := hrel
        by_cases hx : x + 1 < j
        · have hxz : (x : Int) < (j : Int) - 1 := by omega
          have ea44 : ((x : Int)).toNat = x := by omega
          have pa44 : (0 : Int) ≤ (x : Int) := by omega
          have ba44 : (x : Int) < (d.size : Int) := by omega
          have ra44 : IntKind.i64.wrap ((x : Int)) = (x : Int) := by rw [IntKind.wrap_i64]; omega
          have ec44 : ((x : Int) + 1).toNat = x + 1 := by omega
          have pc44 : (0 : Int) ≤ (x : Int) + 1 := by omega
          have bc44 : (x : Int) + 1 < (d.size : Int) := by omega
          have rc44 : IntKind.i64.wrap ((x : Int) + 1) = (x : Int) + 1 := by rw [IntKind.wrap_i64]; omega
          have S2 : Aside (SWK enc k w0 blk off (swp dk (x) (x + 1)) ((wr.drew.setCells blk (off + (x) * k) (enc dk[x + 1]!)).setCells blk (off + (x + 1) * k) (enc dk[x]!))) := S1.out.swapped R (x) (x + 1) (by omega) (by omega)
          have l44a := S1.out.ld1 R (by omega) P (x) (by omega)
          have l44b := S1.out.ld1 R (by omega) P (x + 1) (by omega)
          have s44a := S1.out.st1 R (by omega) P (x) (by omega) dk[x + 1]!
          have s44b := S1.out.st2 R (by omega) P (x) (x + 1) (by omega) (by omega) dk[x + 1]! dk[x]!
          have n44a : (enc dk[x]!).length = k := R.hk _
          have n44b : (enc dk[x + 1]!).length = k := R.hk _
          generalize enc dk[x]! = cI44 at S2 l44a s44b n44a
          generalize enc dk[x + 1]! = cJ44 at S2 l44b s44a s44b n44b
          clear S1
          go_wp2_with fail
          go_big_region_o
          clear l44a l44b s44a s44b
          generalize (wr.drew.setCells blk (off + (x) * k) cJ44).setCells blk (off + (x + 1) * k) cI44 = w2 at S2 ⊢
          go_wp2_with fail
          go_roundg (j - (x + 1))
          case measure => omega
          case rel => exact ⟨x + 1, swp dk x (x + 1), by go_num, by omega, by omega, Nat.le_refl _, by rw [size_swp]; exact hds, HT.out.up hax (by omega), S2⟩
        · have hxz : ¬ (x : Int) < (j : Int) - 1 := by omega
          have hxe : x + 1 = j := by omega
          have HXE : Aside (x + 1 = j) := hxe
          clear hxe
          go_wp2_with fail
          (try simp only [Exit.inBlock, Exit.then])
          refine bodyPost_ret (results_none rfl _ _ _) rfl ⟨rfl, dk, ?_⟩
          have h3 := HT.out
          rw [HXE.out] at h3
          have hm := AM.out
          have hso := SO.out
          obtain ⟨c1, c2⟩ := HX.out
          subst hm
          obtain ⟨q1, q2⟩ := merge_first hO hso (by omega) hjb hb c1 c2 h3
          exact ⟨q1, q2, S1.out⟩
set_option maxHeartbeats 8000000 in
set_option maxRecDepth 1000000 in
theorem symLast {k : Nat} (L : MgL P k) (enc : α → List Value) (cf : α → α → Int) (g : Nat) (cb : Array Value) (hO : SWO (ltOf cf)) (blk off cap a m b : Nat) (d0 d : Array α) (w0 w : World)
    (eg : ∀ args w, (callFunc g args).run P w = .ok (.enter g args) w) (hcmp : CmpLays P g cb enc k cf blk off d0.size w0) (R : RowK enc k w0 blk off d0) (hs : d0.size = d.size) (S : SWK enc k w0 blk off d w)
    (ham : a < m) (hm1 : m ≠ a + 1) (hmb : b = m + 1) (hb : b ≤ d.size) (hsz : d.size < 4611686018427387904) (s1 : SortedIn (ltOf cf) a m d) :
    Calls P 71 #[.slice (some ⟨blk, off, none⟩) d.size cap, .int .i64 a, .int .i64 m, .int .i64 b, .func (.func g) #[] cb] w fun e w' => e = .returned (.tuple #[]) ∧ ∃ d', PermIn a b d d' ∧ SortedIn (ltOf cf) a b d' ∧ SWK enc k w0 blk off d' w' := by
  have mixed := L.mixed; have t0 := L.t0; have a0 := L.a0; have z0 := L.z0; have v0 := L.v0; have t3 := L.t3; have a3 := L.a3; have z3 := L.z3; have v3 := L.v3; have t4 := L.t4; have a4 := L.a4; have z4 := L.z4; have v4 := L.v4; have t22 := L.t22; have a22 := L.a22; have z22 := L.z22; have v22 := L.v22; have t25 := L.t25; have a25 := L.a25; have z25 := L.z25; have v25 := L.v25; have t39 := L.t39; have a39 := L.a39; have z39 := L.z39; have v39 := L.v39; have aE := L.aE; have zE := L.zE
  have u22 := run_underlying L.t22
  have S0 : Aside (SWK enc k w0 blk off d w) := S
  have HC : Aside _ := hcmp
  have hA : ((m : Int) - (a : Int) == 1) = false := by simp; omega
  have hB : (b : Int) - (m : Int) = 1 := by omega
  have SO : Aside (SortedIn (ltOf cf) a m d) := s1
  have BM : Aside (b = m + 1) := hmb
  have hmd : m + 1 ≤ d.size := by omega
  clear S hcmp s1 hm1 hmb
  go_enter L.fY, Try.ntmps71
  go_wp2_with fail
  go_loopg [14, 15] (m - a) (fun kx s14 s15 wr => ∃ (i j : Nat), s14 = .int .i64 i ∧ s15 = .int .i64 j ∧ a ≤ i ∧ i ≤ j ∧ j ≤ m ∧ j - i ≤ kx ∧ Aside ((i = a ∨ ltOf cf d[m]! d[i - 1]! = false) ∧ (j = m ∨ ltOf cf d[m]! d[j]! = true)) ∧ Aside (SWK enc k w0 blk off d wr))
  case atStart => exact ⟨a, m, rfl, rfl, Nat.le_refl _, by omega, Nat.le_refl _, by omega, ⟨.inl rfl, .inl rfl⟩, S0⟩
  case round =>
    clear S0
    obtain ⟨i, j, rfl, rfl, hai, hij, hjm, hkx, HX, S1⟩ := hrel
    by_cases hlt : i < j
    · have hltz : (i : Int) < (j : Int) := by omega
      obtain ⟨h, hh⟩ : ∃ h, (i + j) / 2 = h := ⟨_, rfl⟩
      have hhz : ((i : Int) + (j : Int)) / 2 = (h : Int) := by omega
      have h1 : i ≤ h := by omega
      have h2 : h < j := by omega
      have h2z : (h : Int) < (d.size : Int) := by omega
      have a2z : (m : Int) < (d.size : Int) := by omega
      have rz : IntKind.i64.wrap (h : Int) = (h : Int) := by rw [IntKind.wrap_i64]; omega
      have raz : IntKind.i64.wrap (m : Int) = (m : Int) := by rw [IntKind.wrap_i64]; omega
      have l1 := S1.out.ld R (by omega) P h (by omega)
      have l2 := S1.out.ld R (by omega) P m (by omega)
      have hcg := S1.out.cmp HC.out (by omega) d[m]! d[h]!
      have nh : (enc d[h]!).length = k := R.hk _
      have na : (enc d[m]!).length = k := R.hk _
      clear hh
      by_cases hlv : cf d[m]! d[h]! < 0
      · have hn := ltOf_t hlv
        have HN : Aside _ := hn
        clear hn
        generalize enc d[h]! = cH at l1 hcg nh
        generalize enc d[m]! = cA at l2 hcg na
        generalize cf d[m]! d[h]! = rr at hcg hlv
        go_upto_region 17 with fail
        go_quiet_grown (first | (go_at_fn g; refine Calls.grown_of (hcg _ _)))
        go_wp2_with fail
        go_roundg (h - i)
        case measure => omega
        case rel => exact ⟨i, h, rfl, rfl, hai, by omega, by omega, Nat.le_refl _, ⟨HX.out.1, .inr HN.out⟩, S1.out.grown nq osq⟩
      · have hn := ltOf_f hlv
        have HN : Aside _ := hn
        clear hn
        generalize enc d[h]! = cH at l1 hcg nh
        generalize enc d[m]! = cA at l2 hcg na
        generalize cf d[m]! d[h]! = rr at hcg hlv
        go_upto_region 17 with fail
        go_quiet_grown (first | (go_at_fn g; refine Calls.grown_of (hcg _ _)))
        go_wp2_with fail
        go_roundg (j - (h + 1))
        case measure => omega
        case rel => exact ⟨h + 1, j, by go_num, rfl, by omega, by omega, hjm, Nat.le_refl _, ⟨.inr (by rw [Nat.add_sub_cancel]; exact HN.out), HX.out.2⟩, S1.out.grown nq osq⟩
    · have hltz : ¬ (i : Int) < (j : Int) := by omega
      have hje : j = i := by omega
      subst hje
      go_wp2_with fail
      go_loopg [17] (m - j) (fun kx s17 wr2 => ∃ (x : Nat) (dk : Array α), s17 = .int .i64 x ∧ j ≤ x ∧ x ≤ m ∧ x - j ≤ kx ∧ dk.size = d.size ∧ Aside (RotT x m (m + 1) d dk) ∧ Aside (SWK enc k w0 blk off dk wr2))
      case atStart => exact ⟨m, d, rfl, by omega, Nat.le_refl _, by omega, rfl, RotT.refl d (by omega) (by omega) (.inl rfl), S1⟩
      case round =>
        clear S1
        obtain ⟨x, dk, rfl, hjx, hxm, hkx2, hds, HT, S1⟩ := hrel
        by_cases hx : j < x
        · obtain ⟨y, rfl⟩ : ∃ y, x = y + 1 := ⟨x - 1, by omega⟩
          have hxz : (j : Int) < (y : Int) + 1 := by omega
          have ea44 : ((y : Int)).toNat = y := by omega
          have pa44 : (0 : Int) ≤ (y : Int) := by omega
          have ba44 : (y : Int) < (d.size : Int) := by omega
          have ra44 : IntKind.i64.wrap ((y : Int)) = (y : Int) := by rw [IntKind.wrap_i64]; omega
          have ec44 : ((y : Int) + 1).toNat = y + 1 := by omega
          have pc44 : (0 : Int) ≤ (y : Int) + 1 := by omega
          have bc44 : (y : Int) + 1 < (d.size : Int) := by omega
          have rc44 : IntKind.i64.wrap ((y : Int) + 1) = (y : Int) + 1 := by rw [IntKind.wrap_i64]; omega
          have S2 : Aside (SWK enc k w0 blk off (swp dk (y + 1) (y)) ((wr.drew.setCells blk (off + (y + 1) * k) (enc dk[y]!)).setCells blk (off + (y) * k) (enc dk[y + 1]!))) := S1.out.swapped R (y + 1) (y) (by omega) (by omega)
          have l44a := S1.out.ld1 R (by omega) P (y + 1) (by omega)
          have l44b := S1.out.ld1 R (by omega) P (y) (by omega)
          have s44a := S1.out.st1 R (by omega) P (y + 1) (by omega) dk[y]!
          have s44b := S1.out.st2 R (by omega) P (y + 1) (y) (by omega) (by omega) dk[y]! dk[y + 1]!
          have n44a : (enc dk[y + 1]!).length = k := R.hk _
          have n44b : (enc dk[y]!).length = k := R.hk _
          generalize enc dk[y + 1]! = cI44 at S2 l44a s44b n44a
          generalize enc dk[y]! = cJ44 at S2 l44b s44a s44b n44b
          clear S1
          go_wp2_with fail
          go_big_region_o
          clear l44a l44b s44a s44b
          generalize (wr.drew.setCells blk (off + (y + 1) * k) cJ44).setCells blk (off + (y) * k) cI44 = w2 at S2 ⊢
          go_wp2_with fail
          go_roundg (y - j)
          case measure => omega
          case rel => exact ⟨y, swp dk (y + 1) y, by first | rfl | go_num | (congr 1; omega), by omega, by omega, Nat.le_refl _, by rw [size_swp]; exact hds, HT.out.down (by omega) (by omega), S2⟩
        · have hxz : ¬ (j : Int) < (x : Int) := by omega
          have hxe : x = j := by omega
          have HXE : Aside (x = j) := hxe
          clear hxe
          go_wp2_with fail
          (try simp only [Exit.inBlock, Exit.then])
          refine bodyPost_ret (results_none rfl _ _ _) rfl ⟨rfl, dk, ?_⟩
          have h3 := HT.out
          rw [HXE.out] at h3
          have hm := BM.out
          have hso := SO.out
          obtain ⟨c1, c2⟩ := HX.out
          subst hm
          obtain ⟨q1, q2⟩ := merge_last hO hso (by omega) (by omega) (by omega) c1 c2 h3
          exact ⟨q1, q2, S1.out⟩
end Go.Proofs.Ytpjlkhdolhoeoaa
