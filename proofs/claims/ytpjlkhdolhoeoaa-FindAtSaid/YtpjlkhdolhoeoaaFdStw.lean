/- Walks: the stable sort: blocks of twenty, then merges (chapter 03). -/
import Derived.Test.YtpjlkhdolhoeoaaFdSyn
namespace Go.Proofs.Ytpjlkhdolhoeoaa
open Go.Shelf Go.RowKit Go.Lib Go.Sort
set_option linter.unusedVariables false
set_option linter.unusedSimpArgs false
variable {P : Program} {α : Type} [Inhabited α]
theorem blk_two {lt : α → α → Bool} {bs t n A : Nat} {d : Array α} (h : BlkR lt bs (2 * t) n d) (hA : A = t * (2 * bs)) : SortedIn lt A (min (A + bs) n) d ∧ SortedIn lt (A + bs) (min (A + 2 * bs) n) d := by
  have h1 := h (2 * t) (Nat.le_refl _)
  have h2 := h (2 * t + 1) (by omega)
  have e1 : 2 * t * bs = A := by rw [hA, Nat.mul_comm 2 t, Nat.mul_assoc]
  rw [Nat.add_mul (2 * t) 1 bs, Nat.one_mul, e1] at h1
  rw [Nat.add_mul (2 * t + 1) 1 bs, Nat.add_mul (2 * t) 1 bs, Nat.one_mul, e1] at h2
  exact ⟨h1, by rw [show A + 2 * bs = A + bs + bs by omega]; exact h2⟩
set_option maxHeartbeats 16000000 in
set_option maxRecDepth 1000000 in
theorem stableK {k : Nat} (L : MgL P k) (enc : α → List Value) (cf : α → α → Int) (g : Nat) (cb : Array Value) (hO : SWO (ltOf cf)) (blk off cap : Nat) (d0 d : Array α) (w0 w : World)
    (eg : ∀ args w, (callFunc g args).run P w = .ok (.enter g args) w) (hcmp : CmpLays P g cb enc k cf blk off d0.size w0) (R : RowK enc k w0 blk off d0)
    (hI : ∀ (a b : Nat) (d : Array α) (w : World), d0.size = d.size → SWK enc k w0 blk off d w → a ≤ b → b ≤ d.size → Calls P 63 #[.slice (some ⟨blk, off, none⟩) d.size cap, .int .i64 a, .int .i64 b, .func (.func g) #[] cb] w fun e w' => e = .returned (.tuple #[]) ∧ ∃ d', PermIn a b d d' ∧ SortedIn (ltOf cf) a b d' ∧ SWK enc k w0 blk off d' w')
    (hs : d0.size = d.size) (S : SWK enc k w0 blk off d w) (hsz : d.size ≤ 1000000) :
    Calls P 48 #[.slice (some ⟨blk, off, none⟩) d.size cap, .int .i64 d.size, .func (.func g) #[] cb] w fun e w' => e = .returned (.tuple #[]) ∧ ∃ d', PermIn 0 d.size d d' ∧ SortedIn (ltOf cf) 0 d.size d' ∧ SWK enc k w0 blk off d' w' := by
  have mixed := L.mixed; have t0 := L.t0; have a0 := L.a0; have z0 := L.z0; have v0 := L.v0; have t3 := L.t3; have a3 := L.a3; have z3 := L.z3; have v3 := L.v3; have t4 := L.t4; have a4 := L.a4; have z4 := L.z4; have v4 := L.v4; have t22 := L.t22; have a22 := L.a22; have z22 := L.z22; have v22 := L.v22; have t25 := L.t25; have a25 := L.a25; have z25 := L.z25; have v25 := L.v25; have t39 := L.t39; have a39 := L.a39; have z39 := L.z39; have v39 := L.v39; have aE := L.aE; have zE := L.zE
  have u22 := run_underlying L.t22
  have eI := L.eI
  have eY := L.eY
  have HC : Aside _ := hcmp
  have HI : Aside _ := hI
  have S0 : Aside (SWK enc k w0 blk off d w) := S
  obtain ⟨n, hn⟩ : ∃ n, d.size = n := ⟨_, rfl⟩
  rw [hn] at hs hsz ⊢
  have HNN : Aside (d.size = n) := hn
  clear S hI hcmp hn
  go_enter L.fB, Try.ntmps48
  go_wp2_with fail
  go_loopg [7, 8] n (fun kx s7 s8 wr => ∃ (t A : Nat) (dk : Array α), s7 = .int .i64 A ∧ s8 = .int .i64 ((A : Int) + 20) ∧ Aside (A = t * 20) ∧ A ≤ n ∧ n - A ≤ kx ∧ Aside (dk.size = n ∧ PermIn 0 n d dk ∧ BlkS (ltOf cf) 20 t n dk) ∧ Aside (SWK enc k w0 blk off dk wr))
  case atStart => exact ⟨0, 0, d, by go_num, by go_num, by show 0 = 0 * 20; omega, Nat.zero_le _, by omega, ⟨HNN.out, permIn_refl _ _ _, fun u hu => absurd hu (Nat.not_lt_zero _)⟩, S0⟩
  case round =>
    clear S0
    obtain ⟨t, A, dk, rfl, rfl, HA, hAn, hkx, HD, S1⟩ := hrel
    by_cases hle : A + 20 ≤ n
    · have hlez : (A : Int) + 20 ≤ (n : Int) := by omega
      have hcall := HI.out A (A + 20) dk wr (by rw [HD.out.1]; exact hs) S1.out (by omega) (by rw [HD.out.1]; exact hle)
      rw [HD.out.1, show ((A + 20 : Nat) : Int) = (A : Int) + 20 by omega] at hcall
      clear S1
      go_wp2_with (go_at_fn 63; refine hcall.mono ?_; rintro e w1 ⟨rfl, d3, hd3, hd4, S3⟩; have HD3 : Aside _ := And.intro hd3 hd4; have HS3 : Aside _ := S3; clear hd3 hd4 S3)
      go_roundg (n - (A + 20))
      case measure => omega
      case rel =>
        obtain ⟨q1, q2, q3⟩ := HD.out
        have hA := HA.out
        refine ⟨t + 1, A + 20, d3, by go_num, by first | rfl | go_num | (congr 1; omega), by show A + 20 = (t + 1) * 20; omega, hle, Nat.le_refl _, ⟨HD3.out.1.1.trans q1, permIn_trans _ _ _ _ _ q2 (permIn_mono _ _ _ _ _ _ (Nat.zero_le _) hle (by omega) HD3.out.1), ?_⟩, HS3⟩
        refine q3.step (b' := A + 20) (by omega) ?_ ?_
        · rw [← hA]; exact HD3.out.1
        · rw [← hA]; exact HD3.out.2
    · have hlez : ¬ (A : Int) + 20 ≤ (n : Int) := by omega
      have hcall := HI.out A n dk wr (by rw [HD.out.1]; exact hs) S1.out hAn (by rw [HD.out.1]; exact Nat.le_refl _)
      rw [HD.out.1] at hcall
      clear S1
      go_wp2_with (go_at_fn 63; refine hcall.mono ?_; rintro e w1 ⟨rfl, d3, hd3, hd4, S3⟩; have HD3 : Aside _ := And.intro hd3 hd4; have HS3 : Aside _ := S3; clear hd3 hd4 S3)
      have HB3 : Aside (d3.size = n ∧ PermIn 0 n d d3 ∧ BlkR (ltOf cf) 20 0 n d3) := by
        obtain ⟨q1, q2, q3⟩ := HD.out
        have hA := HA.out
        refine ⟨HD3.out.1.1.trans q1, permIn_trans _ _ _ _ _ q2 (permIn_mono _ _ _ _ _ _ (Nat.zero_le _) (Nat.le_refl _) (by omega) HD3.out.1), ?_⟩
        refine BlkS.all (t := t + 1) (q3.step (b' := n) (by omega) ?_ ?_) (by omega)
        · rw [← hA]; exact HD3.out.1
        · rw [← hA]; exact HD3.out.2
      clear HD HD3 hkx HA hlez hle hcall
      go_loopg [6] n (fun kx s6 wr => ∃ (bs : Nat) (dk : Array α), s6 = .int .i64 bs ∧ 20 ≤ bs ∧ bs ≤ 2 * n + 20 ∧ n - bs ≤ kx ∧ Aside (dk.size = n ∧ PermIn 0 n d dk ∧ BlkR (ltOf cf) bs 0 n dk) ∧ Aside (SWK enc k w0 blk off dk wr))
      case atStart => exact ⟨20, d3, by go_num, Nat.le_refl _, by omega, by omega, HB3.out, HS3⟩
      case round =>
        clear HS3 HB3
        obtain ⟨bs, dk2, rfl, hbs, hbs2, hkx, HD, S1⟩ := hrel
        by_cases hlt : bs < n
        · have hltz : (bs : Int) < (n : Int) := by omega
          obtain ⟨D, hD⟩ : ∃ D, 2 * bs = D := ⟨_, rfl⟩
          have hDz : 2 * (bs : Int) = (D : Int) := by omega
          have hDz2 : (bs : Int) * 2 = (D : Int) := by omega
          have hDn : D ≤ 2 * n := by omega
          have HDD : Aside (2 * bs = D) := hD
          clear hD
          go_wp2_with fail
          go_loopg [7, 8] n (fun kx s7 s8 wr2 => ∃ (t A : Nat) (dj : Array α), s7 = .int .i64 A ∧ s8 = .int .i64 ((A : Int) + (D : Int)) ∧ Aside (A = t * (2 * bs)) ∧ A ≤ n ∧ n - A ≤ kx ∧ Aside (dj.size = n ∧ PermIn 0 n d dj ∧ BlkS (ltOf cf) (2 * bs) t n dj ∧ BlkR (ltOf cf) bs (2 * t) n dj) ∧ Aside (SWK enc k w0 blk off dj wr2))
          case atStart => exact ⟨0, 0, dk2, by go_num, by first | rfl | go_num | simp, by show 0 = 0 * (2 * bs); omega, Nat.zero_le _, by omega, ⟨HD.out.1, HD.out.2.1, (fun u hu => absurd hu (Nat.not_lt_zero _)), HD.out.2.2⟩, S1⟩
          case round =>
            clear S1 HD
            obtain ⟨t, A, dj, rfl, rfl, HA, hAn, hkx2, HD, S1⟩ := hrel
            obtain ⟨g1, g2⟩ := blk_two HD.out.2.2.2 HA.out
            have G : Aside (SortedIn (ltOf cf) A (min (A + bs) n) dj ∧ SortedIn (ltOf cf) (A + bs) (min (A + 2 * bs) n) dj) := ⟨g1, g2⟩
            clear g1 g2
            have hdj : dj.size = n := HD.out.1
            by_cases hle : A + D ≤ n
            · have hlez : (A : Int) + (D : Int) ≤ (n : Int) := by omega
              have hcall := symMergeK L enc cf g cb hO blk off cap d0 w0 eg HC.out R (D + 1) A (A + bs) (A + D) dj wr (by omega) (by rw [hdj]; exact hs) S1.out (by omega) (by have := HDD.out; omega) (by omega) (by omega) (by have := G.out.1; rw [show min (A + bs) n = A + bs by have := HDD.out; omega] at this; exact this) (by have := G.out.2; rw [show min (A + 2 * bs) n = A + D by have := HDD.out; omega] at this; exact this)
              rw [hdj, show ((A + bs : Nat) : Int) = (A : Int) + (bs : Int) by omega, show ((A + D : Nat) : Int) = (A : Int) + (D : Int) by omega] at hcall
              clear S1
              go_wp2_with (go_at_fn 71; refine hcall.mono ?_; rintro e w1 ⟨rfl, d3, hd3, hd4, S3⟩; have HD3 : Aside _ := And.intro hd3 hd4; have HS3 : Aside _ := S3; clear hd3 hd4 S3)
              go_roundg (n - (A + D))
              case measure => omega
              case rel =>
                obtain ⟨q1, q2, q3, q4⟩ := HD.out
                have hA := HA.out
                have hDD := HDD.out
                have hA2 : A + D = (t + 1) * (2 * bs) := by rw [Nat.succ_mul, ← hA]; omega
                refine ⟨t + 1, A + D, d3, by go_num, by first | rfl | go_num | (congr 1; omega), hA2, hle, Nat.le_refl _, ⟨HD3.out.1.1.trans q1, permIn_trans _ _ _ _ _ q2 (permIn_mono _ _ _ _ _ _ (Nat.zero_le _) hle (by omega) HD3.out.1), ?_, ?_⟩, HS3⟩
                · refine q3.step (b' := A + D) (by rw [← hA2]; omega) ?_ ?_
                  · rw [← hA]; exact HD3.out.1
                  · rw [← hA]; exact HD3.out.2
                · refine q4.step (x := A) ?_
                  rw [← hA2]; exact HD3.out.1
            · have hlez : ¬ (A : Int) + (D : Int) ≤ (n : Int) := by omega
              by_cases hm : A + bs < n
              · have hmz : (A : Int) + (bs : Int) < (n : Int) := by omega
                have hcall := symMergeK L enc cf g cb hO blk off cap d0 w0 eg HC.out R (n + 1) A (A + bs) n dj wr (by omega) (by rw [hdj]; exact hs) S1.out (by omega) hm (by omega) (by omega) (by have := G.out.1; rw [show min (A + bs) n = A + bs by omega] at this; exact this) (by have := G.out.2; rw [show min (A + 2 * bs) n = n by have := HDD.out; omega] at this; exact this)
                rw [hdj, show ((A + bs : Nat) : Int) = (A : Int) + (bs : Int) by omega] at hcall
                clear S1
                go_wp2_with (go_at_fn 71; refine hcall.mono ?_; rintro e w1 ⟨rfl, d3, hd3, hd4, S3⟩; have HD3 : Aside _ := And.intro hd3 hd4; have HS3 : Aside _ := S3; clear hd3 hd4 S3)
                go_roundg (n - D)
                case measure => have := HDD.out; omega
                case rel =>
                  obtain ⟨q1, q2, q3, q4⟩ := HD.out
                  have hA := HA.out
                  have hDD := HDD.out
                  have hA2 : A + D = (t + 1) * (2 * bs) := by rw [Nat.succ_mul, ← hA]; omega
                  refine ⟨D, d3, rfl, by omega, by omega, Nat.le_refl _, ⟨HD3.out.1.1.trans q1, permIn_trans _ _ _ _ _ q2 (permIn_mono _ _ _ _ _ _ (Nat.zero_le _) (Nat.le_refl _) (by omega) HD3.out.1), ?_⟩, HS3⟩
                  have h3 := q3.step (b' := n) (by rw [← hA2]; omega) (by rw [← hA]; exact HD3.out.1) (by rw [← hA]; exact HD3.out.2)
                  rw [← hDD]
                  exact h3.all (by rw [← hA2]; omega)
              · have hmz : ¬ (A : Int) + (bs : Int) < (n : Int) := by omega
                go_wp2_with fail
                go_roundg (n - D)
                case measure => have := HDD.out; omega
                case rel =>
                  obtain ⟨q1, q2, q3, q4⟩ := HD.out
                  have hA := HA.out
                  have hDD := HDD.out
                  have hA2 : A + D = (t + 1) * (2 * bs) := by rw [Nat.succ_mul, ← hA]; omega
                  refine ⟨D, dj, rfl, by omega, by omega, Nat.le_refl _, ⟨q1, q2, ?_⟩, S1⟩
                  have h3 := q3.step (b' := n) (by rw [← hA2]; omega) (permIn_refl _ _ _) (by rw [← hA]; have := G.out.1; rw [show min (A + bs) n = n by omega] at this; exact this)
                  rw [← hDD]
                  exact h3.all (by rw [← hA2]; omega)
        · have hltz : ¬ (bs : Int) < (n : Int) := by omega
          have HE : Aside (SortedIn (ltOf cf) 0 n dk2) := by
            have := HD.out.2.2 0 (Nat.le_refl _)
            rw [show min ((0 + 1) * bs) n = n by omega, Nat.zero_mul] at this
            exact this
          go_wp2_with fail
          go_end0
          exact ⟨rfl, dk2, HD.out.2.1, HE.out, S1.out⟩
end Go.Proofs.Ytpjlkhdolhoeoaa
