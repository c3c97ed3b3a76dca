/- Walks: ranges exchanged, and rotated (the stable sort, chapter 03). -/
import Derived.Test.YtpjlkhdolhoeoaaFdMrg
import Derived.Shelf.SlSortCmp.KitK
import Derived.Deep.LoopGhost
namespace Go.Proofs.Ytpjlkhdolhoeoaa
open Go.Shelf Go.RowKit Go.Lib Go.Sort
set_option linter.unusedVariables false
set_option linter.unusedSimpArgs false
/-- What the walks ask of a program: the bodies, and what is known of the types. -/
structure MgL (P : Program) (k : Nat) : Prop where
  mixed : P.follows .mixedOrders = true
  fS : P.funcs[85]? = some Try.f85
  fR : P.funcs[82]? = some Try.f82
  fY : P.funcs[71]? = some Try.f71
  fB : P.funcs[48]? = some Try.f48
  eI : ∀ args w, (callFunc 63 args).run P w = .ok (.enter 63 args) w
  t0 : P.underlying 0 = some (TypeDesc.tuple #[])
  a0 : ∀ w, (isAgg 0).run P w = .ok false w
  z0 : ∀ w, (Go.sizeOf 0).run P w = .ok 1 w
  v0 : ∀ w, (zeroValue 0).run P w = .ok (Value.tuple #[]) w
  t3 : P.underlying 3 = some (TypeDesc.int IntKind.i64)
  a3 : ∀ w, (isAgg 3).run P w = .ok false w
  z3 : ∀ w, (Go.sizeOf 3).run P w = .ok 1 w
  v3 : ∀ w, (zeroValue 3).run P w = .ok (Value.int IntKind.i64 0) w
  t4 : P.underlying 4 = some (TypeDesc.bool)
  a4 : ∀ w, (isAgg 4).run P w = .ok false w
  z4 : ∀ w, (Go.sizeOf 4).run P w = .ok 1 w
  v4 : ∀ w, (zeroValue 4).run P w = .ok (Value.bool false) w
  t22 : P.underlying 73 = some (TypeDesc.slice 75)
  a22 : ∀ w, (isAgg 73).run P w = .ok false w
  z22 : ∀ w, (Go.sizeOf 73).run P w = .ok 1 w
  v22 : ∀ w, (zeroValue 73).run P w = .ok (Value.slice none 0 0) w
  t25 : P.underlying 77 = some (TypeDesc.func #[75, 75] #[3] false)
  a25 : ∀ w, (isAgg 77).run P w = .ok false w
  z25 : ∀ w, (Go.sizeOf 77).run P w = .ok 1 w
  v25 : ∀ w, (zeroValue 77).run P w = .ok (Value.nilFunc) w
  t39 : P.underlying 81 = some (TypeDesc.int IntKind.u64)
  a39 : ∀ w, (isAgg 81).run P w = .ok false w
  z39 : ∀ w, (Go.sizeOf 81).run P w = .ok 1 w
  v39 : ∀ w, (zeroValue 81).run P w = .ok (Value.int IntKind.u64 0) w
  aE : ∀ w, (isAgg 75).run P w = .ok true w
  zE : ∀ w, (Go.sizeOf 75).run P w = .ok k w
theorem MgL.eS {P : Program} {k : Nat} (L : MgL P k) : ∀ args w, (callFunc 85 args).run P w = .ok (.enter 85 args) w := enters_of L.fS (by kernel_rfl) rfl
theorem MgL.eR {P : Program} {k : Nat} (L : MgL P k) : ∀ args w, (callFunc 82 args).run P w = .ok (.enter 82 args) w := enters_of L.fR (by kernel_rfl) rfl
theorem MgL.eY {P : Program} {k : Nat} (L : MgL P k) : ∀ args w, (callFunc 71 args).run P w = .ok (.enter 71 args) w := enters_of L.fY (by kernel_rfl) rfl
theorem MgL.eB {P : Program} {k : Nat} (L : MgL P k) : ∀ args w, (callFunc 48 args).run P w = .ok (.enter 48 args) w := enters_of L.fB (by kernel_rfl) rfl
variable {P : Program} {α : Type} [Inhabited α]
set_option maxHeartbeats 4000000 in
set_option maxRecDepth 1000000 in
theorem swapRangeK {k : Nat} (L : MgL P k) (enc : α → List Value) (g : Nat) (cb : Array Value) (blk off cap x y n : Nat) (d0 d : Array α) (w0 w : World)
    (R : RowK enc k w0 blk off d0) (hs : d0.size = d.size) (S : SWK enc k w0 blk off d w) (hxy : x + n ≤ y) (hy : y + n ≤ d.size) (hsz : d.size < 4611686018427387904) :
    Calls P 85 #[.slice (some ⟨blk, off, none⟩) d.size cap, .int .i64 x, .int .i64 y, .int .i64 n, .func (.func g) #[] cb] w fun e w' => e = .returned (.tuple #[]) ∧ ∃ d', SwR x y n d d' ∧ SWK enc k w0 blk off d' w' := by
  have mixed := L.mixed; have t0 := L.t0; have a0 := L.a0; have z0 := L.z0; have v0 := L.v0; have t3 := L.t3; have a3 := L.a3; have z3 := L.z3; have v3 := L.v3; have t4 := L.t4; have a4 := L.a4; have z4 := L.z4; have v4 := L.v4; have t22 := L.t22; have a22 := L.a22; have z22 := L.z22; have v22 := L.v22; have t25 := L.t25; have a25 := L.a25; have z25 := L.z25; have v25 := L.v25; have aE := L.aE; have zE := L.zE
  have S0 : Aside (SWK enc k w0 blk off d w) := S
  clear S
  go_enter L.fS, Try.ntmps85
  go_wp2
  go_loopg [10] n (fun kx s10 wr => ∃ (i : Nat) (dk : Array α), s10 = .int .i64 i ∧ i ≤ n ∧ n - i ≤ kx ∧ Aside (SwR x y i d dk) ∧ Aside (SWK enc k w0 blk off dk wr))
  case atStart => exact ⟨0, d, by go_num, Nat.zero_le _, by omega, SwR.zero x y d, S0⟩
  case round =>
    clear S0
    obtain ⟨i, dk, rfl, hin, hkx, HX, S1⟩ := hrel
    have hds : dk.size = d.size := HX.out.size
    by_cases hlt : i < n
    · have hltz : (i : Int) < (n : Int) := by omega
      go_wp2_with fail
      have ea44 : ((x : Int) + (i : Int)).toNat = x + i := by omega
      have pa44 : (0 : Int) ≤ (x : Int) + (i : Int) := by omega
      have ba44 : (x : Int) + (i : Int) < (d.size : Int) := by omega
      have ra44 : IntKind.i64.wrap ((x : Int) + (i : Int)) = (x : Int) + (i : Int) := by rw [IntKind.wrap_i64]; omega
      have ec44 : ((y : Int) + (i : Int)).toNat = y + i := by omega
      have pc44 : (0 : Int) ≤ (y : Int) + (i : Int) := by omega
      have bc44 : (y : Int) + (i : Int) < (d.size : Int) := by omega
      have rc44 : IntKind.i64.wrap ((y : Int) + (i : Int)) = (y : Int) + (i : Int) := by rw [IntKind.wrap_i64]; omega
      have S2 : Aside (SWK enc k w0 blk off (swp dk (x + i) (y + i)) ((wr.drew.setCells blk (off + (x + i) * k) (enc dk[y + i]!)).setCells blk (off + (y + i) * k) (enc dk[x + i]!))) := S1.out.swapped R (x + i) (y + i) (by omega) (by omega)
      have l44a := S1.out.ld1 R (by omega) P (x + i) (by omega)
      have l44b := S1.out.ld1 R (by omega) P (y + i) (by omega)
      have s44a := S1.out.st1 R (by omega) P (x + i) (by omega) dk[y + i]!
      have s44b := S1.out.st2 R (by omega) P (x + i) (y + i) (by omega) (by omega) dk[y + i]! dk[x + i]!
      have n44a : (enc dk[x + i]!).length = k := R.hk _
      have n44b : (enc dk[y + i]!).length = k := R.hk _
      generalize enc dk[x + i]! = cI44 at S2 l44a s44b n44a
      generalize enc dk[y + i]! = cJ44 at S2 l44b s44a s44b n44b
      clear S1
      go_wp2_with fail
      go_big_region_o
      clear l44a l44b s44a s44b
      generalize (wr.drew.setCells blk (off + (x + i) * k) cJ44).setCells blk (off + (y + i) * k) cI44 = w2 at S2 ⊢
      go_wp2
      go_roundg (n - (i + 1))
      case measure => omega
      case rel => exact ⟨i + 1, swp dk (x + i) (y + i), by go_num, hlt, Nat.le_refl _, HX.out.succ (by omega) (by omega), S2⟩
    · have hltz : ¬ (i : Int) < (n : Int) := by omega
      have hie : i = n := by omega
      subst hie
      go_wp2
      go_end0
      exact ⟨rfl, dk, HX.out, S1.out⟩
set_option maxHeartbeats 4000000 in
set_option maxRecDepth 1000000 in
theorem rotateK {k : Nat} (L : MgL P k) (enc : α → List Value) (g : Nat) (cb : Array Value) (blk off cap a m b : Nat) (d0 d : Array α) (w0 w : World)
    (R : RowK enc k w0 blk off d0) (hs : d0.size = d.size) (S : SWK enc k w0 blk off d w) (ham : a < m) (hmb : m < b) (hb : b ≤ d.size) (hsz : d.size < 4611686018427387904) :
    Calls P 82 #[.slice (some ⟨blk, off, none⟩) d.size cap, .int .i64 a, .int .i64 m, .int .i64 b, .func (.func g) #[] cb] w fun e w' => e = .returned (.tuple #[]) ∧ ∃ d', RotT a m b d d' ∧ SWK enc k w0 blk off d' w' := by
  have mixed := L.mixed; have t0 := L.t0; have a0 := L.a0; have z0 := L.z0; have v0 := L.v0; have t3 := L.t3; have a3 := L.a3; have z3 := L.z3; have v3 := L.v3; have t4 := L.t4; have a4 := L.a4; have z4 := L.z4; have v4 := L.v4; have t22 := L.t22; have a22 := L.a22; have z22 := L.z22; have v22 := L.v22; have t25 := L.t25; have a25 := L.a25; have z25 := L.z25; have v25 := L.v25; have aE := L.aE; have zE := L.zE
  have S0 : Aside (SWK enc k w0 blk off d w) := S
  have eS := L.eS
  have e1 : IntKind.i64.wrap ((m : Int) - (a : Int)) = ((m - a : Nat) : Int) := by rw [IntKind.wrap_i64]; omega
  have e2 : IntKind.i64.wrap ((b : Int) - (m : Int)) = ((b - m : Nat) : Int) := by rw [IntKind.wrap_i64]; omega
  have c1 : ((m - a : Nat) : Int) = (m : Int) - (a : Int) := by omega
  have c2 : ((b - m : Nat) : Int) = (b : Int) - (m : Int) := by omega
  clear S
  go_enter L.fR, Try.ntmps82
  go_wp2
  go_loopg [10, 11] (m - a + (b - m)) (fun kx s10 s11 wr => ∃ (i j : Nat) (dk : Array α), s10 = .int .i64 i ∧ s11 = .int .i64 j ∧ 0 < i ∧ 0 < j ∧ i ≤ m ∧ m + j ≤ d.size ∧ i + j ≤ kx ∧ dk.size = d.size ∧ Aside (∀ d2, RotT (m - i) m (m + j) dk d2 → RotT a m b d d2) ∧ Aside (SWK enc k w0 blk off dk wr))
  case atStart => exact ⟨m - a, b - m, d, by rw [c1], by rw [c2], by omega, by omega, by omega, by omega, by omega, rfl, (fun d2 h => by rw [show m - (m - a) = a by omega, show m + (b - m) = b by omega] at h; exact h), S0⟩
  case round =>
    clear S0 e1 e2 c1 c2
    obtain ⟨i, j, dk, rfl, rfl, hi, hj, him, hmj, hkx, hds, HX, S1⟩ := hrel
    have ci : ((m - i : Nat) : Int) = (m : Int) - (i : Int) := by omega
    by_cases hij : i = j
    · subst hij
      have hcall := swapRangeK L enc g cb blk off cap (m - i) m i d0 dk w0 wr R (by omega) S1.out (by omega) (by omega) (by omega)
      rw [ci, hds] at hcall
      clear S1 ci
      go_wp2_with (go_at_fn 85; refine hcall.mono ?_; rintro e w1 ⟨rfl, d3, hd3, S3⟩)
      go_end0
      exact ⟨rfl, d3, HX.out d3 (rot_eq him (by omega) hd3), S3⟩
    · have hne : ¬ (i : Int) = (j : Int) := by omega
      by_cases hgt : j < i
      · have hgz : (j : Int) < (i : Int) := by omega
        have cij : ((i - j : Nat) : Int) = (i : Int) - (j : Int) := by omega
        have hcall := swapRangeK L enc g cb blk off cap (m - i) m j d0 dk w0 wr R (by omega) S1.out (by omega) (by omega) (by omega)
        rw [ci, hds] at hcall
        clear S1 ci
        go_wp2_with (go_at_fn 85; refine hcall.mono ?_; rintro e w1 ⟨rfl, d3, hd3, S3⟩)
        go_roundg (i - j + j)
        case measure => omega
        case rel => exact ⟨i - j, j, d3, by rw [cij], rfl, by omega, hj, by omega, hmj, Nat.le_refl _, hd3.size.trans hds, (fun d2 h => HX.out d2 (rot_gt him hj hgt (by omega) hd3 h)), S3⟩
      · have hgz : ¬ (j : Int) < (i : Int) := by omega
        have cij : ((j - i : Nat) : Int) = (j : Int) - (i : Int) := by omega
        have cmj : ((m + j - i : Nat) : Int) = (m : Int) + (j : Int) - (i : Int) := by omega
        have hcall := swapRangeK L enc g cb blk off cap (m - i) (m + j - i) i d0 dk w0 wr R (by omega) S1.out (by omega) (by omega) (by omega)
        rw [ci, cmj, hds] at hcall
        clear S1 ci cmj
        go_wp2_with (go_at_fn 85; refine hcall.mono ?_; rintro e w1 ⟨rfl, d3, hd3, S3⟩)
        go_roundg (i + (j - i))
        case measure => omega
        case rel => exact ⟨i, j - i, d3, rfl, by rw [cij], hi, by omega, him, by omega, Nat.le_refl _, hd3.size.trans hds, (fun d2 h => HX.out d2 (rot_lt him hi (by omega) (by omega) hd3 h)), S3⟩
end Go.Proofs.Ytpjlkhdolhoeoaa
