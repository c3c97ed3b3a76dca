/- Walks: two sorted ranges are merged in place (the stable sort, chapter 03). -/
import Derived.Test.YtpjlkhdolhoeoaaFdSym
namespace Go.Proofs.Ytpjlkhdolhoeoaa
open Go.Shelf Go.RowKit Go.Lib Go.Sort
set_option linter.unusedVariables false
set_option linter.unusedSimpArgs false
variable {P : Program} {α : Type} [Inhabited α]
/-- Where the search may end. -/
structure SchM (a m b mid n p st r0 : Nat) : Prop where
  n_ : n = mid + m
  p_ : n = p + 1
  ast : a ≤ st
  str : st ≤ r0
  rm : r0 ≤ m
  rmid : r0 ≤ mid
  nst : n ≤ b + st
  c1 : st = a ∨ n = b + st
  c2 : r0 = m ∨ n = m + r0
  amid : a < mid
  midb : mid < b
theorem SchM.up {a m b mid n : Nat} (ham : a + 1 < m) (hmb : m + 1 < b) (hmid : (a + b) / 2 = mid) (hn : mid + m = n) (h : mid < m) : SchM a m b mid n (n - 1) (n - b) mid := by
  refine ⟨?_, ?_, ?_, ?_, ?_, ?_, ?_, ?_, ?_, ?_, ?_⟩ <;> omega
theorem SchM.dn {a m b mid n : Nat} (ham : a + 1 < m) (hmb : m + 1 < b) (hmid : (a + b) / 2 = mid) (hn : mid + m = n) (h : ¬ mid < m) : SchM a m b mid n (n - 1) a m := by
  refine ⟨?_, ?_, ?_, ?_, ?_, ?_, ?_, ?_, ?_, ?_, ?_⟩ <;> omega
set_option maxHeartbeats 16000000 in
set_option maxRecDepth 1000000 in
theorem symMergeK {k : Nat} (L : MgL P k) (enc : α → List Value) (cf : α → α → Int) (g : Nat) (cb : Array Value) (hO : SWO (ltOf cf)) (blk off cap : Nat) (d0 : Array α) (w0 : World)
    (eg : ∀ args w, (callFunc g args).run P w = .ok (.enter g args) w) (hcmp : CmpLays P g cb enc k cf blk off d0.size w0) (R : RowK enc k w0 blk off d0) :
    ∀ (N a m b : Nat) (d : Array α) (w : World), b - a < N → d0.size = d.size → SWK enc k w0 blk off d w → a < m → m < b → b ≤ d.size → d.size < 4611686018427387904 → SortedIn (ltOf cf) a m d → SortedIn (ltOf cf) m b d →
    Calls P 71 #[.slice (some ⟨blk, off, none⟩) d.size cap, .int .i64 a, .int .i64 m, .int .i64 b, .func (.func g) #[] cb] w fun e w' => e = .returned (.tuple #[]) ∧ ∃ d', PermIn a b d d' ∧ SortedIn (ltOf cf) a b d' ∧ SWK enc k w0 blk off d' w' := by
  have mixed := L.mixed; have t0 := L.t0; have a0 := L.a0; have z0 := L.z0; have v0 := L.v0; have t3 := L.t3; have a3 := L.a3; have z3 := L.z3; have v3 := L.v3; have t4 := L.t4; have a4 := L.a4; have z4 := L.z4; have v4 := L.v4; have t22 := L.t22; have a22 := L.a22; have z22 := L.z22; have v22 := L.v22; have t25 := L.t25; have a25 := L.a25; have z25 := L.z25; have v25 := L.v25; have t39 := L.t39; have a39 := L.a39; have z39 := L.z39; have v39 := L.v39; have aE := L.aE; have zE := L.zE
  have u22 := run_underlying L.t22
  have eR := L.eR
  have eY := L.eY
  intro N
  induction N with
  | zero => intro _ _ _ _ _ h; exact absurd h (Nat.not_lt_zero _)
  | succ N ih =>
    intro a m b d w hN hs S ham hmb hb hsz s1 s2
    by_cases hm1 : m = a + 1
    · exact symFirst L enc cf g cb hO blk off cap a m b d0 d w0 w eg hcmp R hs S hm1 hmb hb hsz s2
    by_cases hb1 : b = m + 1
    · exact symLast L enc cf g cb hO blk off cap a m b d0 d w0 w eg hcmp R hs S ham hm1 hb1 hb hsz s1
    have IH : Aside _ := ih
    have HC : Aside _ := hcmp
    have S0 : Aside (SWK enc k w0 blk off d w) := S
    have SS : Aside (SortedIn (ltOf cf) a m d ∧ SortedIn (ltOf cf) m b d) := ⟨s1, s2⟩
    have HN : Aside (b - a < N + 1) := hN
    have hA : ((m : Int) - (a : Int) == 1) = false := by simp; omega
    have hB : ((b : Int) - (m : Int) == 1) = false := by simp; omega
    obtain ⟨mid, hmid⟩ : ∃ mid, (a + b) / 2 = mid := ⟨_, rfl⟩
    obtain ⟨n, hn⟩ : ∃ n, mid + m = n := ⟨_, rfl⟩
    have hmz : ((a : Int) + (b : Int)) / 2 = (mid : Int) := by omega
    have hnz : (mid : Int) + (m : Int) = (n : Int) := by omega
    have hnl : n < 4611686018427387904 * 2 := by omega
    have hml : mid < 4611686018427387904 := by omega
    have HM : Aside ((a + 1 < m ∧ m + 1 < b) ∧ (a + b) / 2 = mid ∧ mid + m = n) := ⟨⟨by omega, by omega⟩, hmid, hn⟩
    clear ih hcmp S s1 s2 hN hmid hn hm1 hb1
    go_enter L.fY, Try.ntmps71
    go_upto_if 140 with fail
    go_cut [20, 21] (fun s20 s21 wx => ∃ st r0 : Nat, s20 = .int .i64 st ∧ s21 = .int .i64 r0 ∧ Aside (SchM a m b mid n (n - 1) st r0) ∧ wx = w)
    case first =>
      as_aux_lemma =>
        by_cases hmm : mid < m
        · have hmmz : (mid : Int) < (m : Int) := by omega
          have hsch := SchM.up HM.out.1.1 HM.out.1.2 HM.out.2.1 HM.out.2.2 hmm
          have HSC : Aside _ := hsch
          have hst : (n : Int) - (b : Int) = ((n - b : Nat) : Int) := by have := hsch.nst; have := hsch.c1; have := hsch.ast; have := hsch.n_; have := HM.out; omega
          have hst2 : ((n - b : Nat) : Int) = (n : Int) - (b : Int) := hst.symm
          clear hsch hst
          go_wp2_with fail
          go_meet
          case rel => exact ⟨n - b, mid, by rw [hst2], rfl, HSC.out, rfl⟩
        · have hmmz : ¬ (mid : Int) < (m : Int) := by omega
          have hsch := SchM.dn HM.out.1.1 HM.out.1.2 HM.out.2.1 HM.out.2.2 hmm
          have HSC : Aside _ := hsch
          clear hsch
          go_wp2_with fail
          go_meet
          case rel => exact ⟨a, m, rfl, rfl, HSC.out, rfl⟩
    case rest =>
      obtain ⟨st, r0, rfl, rfl, HS, rfl⟩ := hcut
      obtain ⟨p, hp⟩ : ∃ p, n - 1 = p := ⟨_, rfl⟩
      rw [hp] at HS
      have hpz : (n : Int) - 1 = (p : Int) := by have := HS.out.p_; omega
      have hpl : p < 4611686018427387904 * 2 := by omega
      have hstr : st ≤ r0 := HS.out.str
      have hrl : r0 < 4611686018427387904 := by have := HS.out.rm; omega
      clear hp
      go_wp2_with fail
      go_loopg [20, 21] (r0 - st) (fun kx s20 s21 wr => ∃ (i j : Nat), s20 = .int .i64 i ∧ s21 = .int .i64 j ∧ st ≤ i ∧ i ≤ j ∧ j ≤ r0 ∧ j - i ≤ kx ∧ Aside ((i = st ∨ ltOf cf d[p - (i - 1)]! d[i - 1]! = false) ∧ (j = r0 ∨ ltOf cf d[p - j]! d[j]! = true)) ∧ Aside (SWK enc k w0 blk off d wr))
      case atStart => exact ⟨st, r0, rfl, rfl, Nat.le_refl _, hstr, Nat.le_refl _, by omega, ⟨.inl rfl, .inl rfl⟩, S0⟩
      case round =>
        clear S0
        obtain ⟨i, j, rfl, rfl, hai, hij, hjm, hkx, HX, S1⟩ := hrel
        by_cases hlt : i < j
        · have hltz : (i : Int) < (j : Int) := by omega
          obtain ⟨h, hh⟩ : ∃ h, (i + j) / 2 = h := ⟨_, rfl⟩
          obtain ⟨q, hq⟩ : ∃ q, p - h = q := ⟨_, rfl⟩
          have hhz : ((i : Int) + (j : Int)) / 2 = (h : Int) := by omega
          have h1 : i ≤ h := by omega
          have h2 : h < j := by omega
          have hS := HS.out
          have hqb : m ≤ q ∧ q < b ∧ h ≤ p := by
            have := hS.n_; have := hS.p_; have := hS.rmid; have := hS.nst; have := hS.rm
            omega
          obtain ⟨hqb1, hqb2, hqb3⟩ := hqb
          have hqz : (p : Int) - (h : Int) = (q : Int) := by omega
          have h2z : (h : Int) < (d.size : Int) := by have := hS.rm; omega
          have a2z : (q : Int) < (d.size : Int) := by omega
          have rz : IntKind.i64.wrap (h : Int) = (h : Int) := by rw [IntKind.wrap_i64]; omega
          have raz : IntKind.i64.wrap (q : Int) = (q : Int) := by rw [IntKind.wrap_i64]; omega
          have l1 := S1.out.ld R (by omega) P h (by omega)
          have l2 := S1.out.ld R (by omega) P q (by omega)
          have hcg := S1.out.cmp HC.out (by omega) d[q]! d[h]!
          have nh : (enc d[h]!).length = k := R.hk _
          have na : (enc d[q]!).length = k := R.hk _
          have HQ : Aside (p - h = q) := hq
          clear hh hq hS
          by_cases hlv : cf d[q]! d[h]! < 0
          · have hn := ltOf_t hlv
            have HN2 : Aside _ := hn
            clear hn
            generalize enc d[h]! = cH at l1 hcg nh
            generalize enc d[q]! = cA at l2 hcg na
            generalize cf d[q]! d[h]! = rr at hcg hlv
            go_upto_region 35 with fail
            go_quiet_grown (first | (go_at_fn g; refine Calls.grown_of (hcg _ _)))
            go_wp2_with fail
            go_roundg (h - i)
            case measure => omega
            case rel => exact ⟨i, h, rfl, rfl, hai, by omega, by omega, Nat.le_refl _, ⟨HX.out.1, .inr (by rw [HQ.out]; exact HN2.out)⟩, S1.out.grown nq osq⟩
          · have hn := ltOf_f hlv
            have HN2 : Aside _ := hn
            clear hn
            generalize enc d[h]! = cH at l1 hcg nh
            generalize enc d[q]! = cA at l2 hcg na
            generalize cf d[q]! d[h]! = rr at hcg hlv
            go_upto_region 35 with fail
            go_quiet_grown (first | (go_at_fn g; refine Calls.grown_of (hcg _ _)))
            go_wp2_with fail
            go_roundg (j - (h + 1))
            case measure => omega
            case rel => exact ⟨h + 1, j, by go_num, rfl, by omega, by omega, hjm, Nat.le_refl _, ⟨.inr (by rw [Nat.add_sub_cancel, HQ.out]; exact HN2.out), HX.out.2⟩, S1.out.grown nq osq⟩
        · have hltz : ¬ (i : Int) < (j : Int) := by omega
          have hje : j = i := by omega
          subst hje
          obtain ⟨e, he⟩ : ∃ e, n - j = e := ⟨_, rfl⟩
          have hS := HS.out
          have hjn : j ≤ n := by have := hS.rm; have := hS.n_; omega
          have hez : (n : Int) - (j : Int) = (e : Int) := by omega
          have hHV : ∀ d1, RotT j m e d d1 → Halves (ltOf cf) a j mid e b d d1 := fun d1 hr => by
            obtain ⟨c1, c2⟩ := HX.out
            refine halves hO SS.out.1 SS.out.2 ?_ ?_ ?_ ?_ hb ?_ hr ?_ ?_
            · have := hS.ast; omega
            · have := hS.rm; omega
            · have := hS.rmid; have := hS.n_; omega
            · have := hS.nst; omega
            · have := hS.n_; omega
            · rcases c1 with c | c
              · rcases hS.c1 with q | q
                · left; omega
                · right; left; omega
              · by_cases hj0 : j = 0
                · left; have := hS.ast; omega
                · right; right
                  have : p - (j - 1) = e := by have := hS.p_; omega
                  rw [this] at c; exact c
            · rcases c2 with c | c
              · rcases hS.c2 with q | q
                · right; left; omega
                · left; omega
              · right; right
                have : p - j = e - 1 := by have := hS.p_; omega
                rw [this] at c; exact c
          have HHV : Aside _ := hHV
          have HE : Aside (a ≤ j ∧ j ≤ m ∧ j ≤ mid ∧ m ≤ e ∧ e ≤ b ∧ mid + m = j + e ∧ a < mid ∧ mid < b) := by
            have := hS.ast; have := hS.rm; have := hS.rmid; have := hS.n_; have := hS.nst; have := hS.amid; have := hS.midb
            exact ⟨by omega, by omega, by omega, by omega, by omega, by omega, by omega, by omega⟩
          clear hHV hS he
          go_upto_region 39 with fail
          go_cut [185] (fun s185 wx => ∃ q : Bool, s185 = .bool q ∧ Aside (q = true ↔ (j < m ∧ m < e)) ∧ Aside (SWK enc k w0 blk off d wx))
          case first =>
            as_aux_lemma =>
              by_cases q1 : j < m
              · have q1z : (j : Int) < (m : Int) := by omega
                by_cases q2 : m < e
                · have q2z : (m : Int) < (e : Int) := by omega
                  have HQ : Aside (j < m ∧ m < e) := ⟨q1, q2⟩
                  go_wp2_with fail
                  go_meet
                  case rel => exact ⟨true, rfl, ⟨fun _ => HQ.out, fun _ => rfl⟩, S1⟩
                · have q2z : ¬ (m : Int) < (e : Int) := by omega
                  go_wp2_with fail
                  go_meet
                  case rel => exact ⟨false, rfl, ⟨fun h => Bool.noConfusion h, fun h => absurd h.2 q2⟩, S1⟩
              · have q1z : ¬ (j : Int) < (m : Int) := by omega
                go_wp2_with fail
                go_meet
                case rel => exact ⟨false, rfl, ⟨fun h => Bool.noConfusion h, fun h => absurd h.1 q1⟩, S1⟩
          case rest =>
            clear S1
            obtain ⟨q, rfl, HQ, S1⟩ := hcut
            go_upto_if 185 with fail
            go_cut [] (fun wx => ∃ d1, Aside (RotT j m e d d1) ∧ Aside (SWK enc k w0 blk off d1 wx))
            case first =>
              as_aux_lemma =>
                cases q
                · have hno : ¬ (j < m ∧ m < e) := fun h => Bool.noConfusion (HQ.out.2 h)
                  have HR : Aside (RotT j m e d d) := RotT.refl d (by have := HE.out; omega) (by have := HE.out; omega) (by have := HE.out; omega)
                  clear hno
                  go_wp2_with fail
                  go_meet
                  case rel => exact ⟨d, HR, S1⟩
                · obtain ⟨g1, g2⟩ := HQ.out.1 rfl
                  have hcall := rotateK L enc g cb blk off cap j m e d0 d w0 _ R hs S1.out g1 g2 (by have := HE.out; omega) hsz
                  clear g1 g2
                  go_wp2_with (go_at_fn 82; refine hcall.mono ?_; rintro e w1 ⟨rfl, d3, hd3, S3⟩; have HD3 : Aside _ := hd3; have HS3 : Aside _ := S3; clear hd3 S3)
                  go_meet
                  case rel => exact ⟨d3, HD3, HS3⟩
            case rest =>
              clear S1 HQ q
              obtain ⟨d1, HR1, S1⟩ := hcut
              have hH := HHV.out d1 HR1.out
              have HH : Aside _ := hH
              have hs1 : d1.size = d.size := hH.size
              clear hH
              go_upto_region 41 with fail
              go_cut [199] (fun s199 wx => ∃ q : Bool, s199 = .bool q ∧ Aside (q = true ↔ (a < j ∧ j < mid)) ∧ Aside (SWK enc k w0 blk off d1 wx))
              case first =>
                as_aux_lemma =>
                  by_cases q1 : a < j
                  · have q1z : (a : Int) < (j : Int) := by omega
                    by_cases q2 : j < mid
                    · have q2z : (j : Int) < (mid : Int) := by omega
                      have HQ : Aside (a < j ∧ j < mid) := ⟨q1, q2⟩
                      go_wp2_with fail
                      go_meet
                      case rel => exact ⟨true, rfl, ⟨fun _ => HQ.out, fun _ => rfl⟩, S1⟩
                    · have q2z : ¬ (j : Int) < (mid : Int) := by omega
                      go_wp2_with fail
                      go_meet
                      case rel => exact ⟨false, rfl, ⟨fun h => Bool.noConfusion h, fun h => absurd h.2 q2⟩, S1⟩
                  · have q1z : ¬ (a : Int) < (j : Int) := by omega
                    go_wp2_with fail
                    go_meet
                    case rel => exact ⟨false, rfl, ⟨fun h => Bool.noConfusion h, fun h => absurd h.1 q1⟩, S1⟩
              case rest =>
                clear S1
                obtain ⟨q, rfl, HQ, S1⟩ := hcut
                go_upto_if 199 with fail
                go_cut [] (fun wx => ∃ d2, Aside (PermIn a mid d1 d2 ∧ SortedIn (ltOf cf) a mid d2) ∧ Aside (SWK enc k w0 blk off d2 wx))
                case first =>
                  as_aux_lemma =>
                    cases q
                    · have hno : ¬ (a < j ∧ j < mid) := fun h => Bool.noConfusion (HQ.out.2 h)
                      have HR : Aside (PermIn a mid d1 d1 ∧ SortedIn (ltOf cf) a mid d1) := by
                        refine ⟨permIn_refl _ _ _, ?_⟩
                        have := HE.out
                        rcases Nat.lt_or_ge a j with c | c
                        · rw [show mid = j by omega]; exact HH.out.s1
                        · rw [show a = j by omega]; exact HH.out.s2
                      clear hno
                      go_wp2_with fail
                      go_meet
                      case rel => exact ⟨d1, HR, S1⟩
                    · obtain ⟨g1, g2⟩ := HQ.out.1 rfl
                      have hcall := IH.out a j mid d1 _ (by have := HN.out; have := HE.out; omega) (by omega) S1.out g1 g2 (by have := HE.out; omega) (by omega) HH.out.s1 HH.out.s2
                      rw [hs1] at hcall
                      clear g1 g2
                      go_wp2_with (go_at_fn 71; refine hcall.mono ?_; rintro e w1 ⟨rfl, d3, hd3, hd4, S3⟩; have HD3 : Aside _ := And.intro hd3 hd4; have HS3 : Aside _ := S3; clear hd3 hd4 S3)
                      go_meet
                      case rel => exact ⟨d3, HD3, HS3⟩
                case rest =>
                  clear S1 HQ q
                  obtain ⟨d2, HR2, S1⟩ := hcut
                  have hs2 : d2.size = d.size := HR2.out.1.1.trans hs1
                  have K3 : Aside (SortedIn (ltOf cf) mid e d2 ∧ SortedIn (ltOf cf) e b d2) :=
                    ⟨srt_kept HH.out.s3 fun x hx _ => HR2.out.1.2.1 x (Or.inr hx), srt_kept HH.out.s4 fun x hx _ => HR2.out.1.2.1 x (Or.inr (by have := HE.out; omega))⟩
                  go_upto_region 43 with fail
                  go_cut [213] (fun s213 wx => ∃ q : Bool, s213 = .bool q ∧ Aside (q = true ↔ (mid < e ∧ e < b)) ∧ Aside (SWK enc k w0 blk off d2 wx))
                  case first =>
                    as_aux_lemma =>
                      by_cases q1 : mid < e
                      · have q1z : (mid : Int) < (e : Int) := by omega
                        by_cases q2 : e < b
                        · have q2z : (e : Int) < (b : Int) := by omega
                          have HQ : Aside (mid < e ∧ e < b) := ⟨q1, q2⟩
                          go_wp2_with fail
                          go_meet
                          case rel => exact ⟨true, rfl, ⟨fun _ => HQ.out, fun _ => rfl⟩, S1⟩
                        · have q2z : ¬ (e : Int) < (b : Int) := by omega
                          go_wp2_with fail
                          go_meet
                          case rel => exact ⟨false, rfl, ⟨fun h => Bool.noConfusion h, fun h => absurd h.2 q2⟩, S1⟩
                      · have q1z : ¬ (mid : Int) < (e : Int) := by omega
                        go_wp2_with fail
                        go_meet
                        case rel => exact ⟨false, rfl, ⟨fun h => Bool.noConfusion h, fun h => absurd h.1 q1⟩, S1⟩
                  case rest =>
                    clear S1
                    obtain ⟨q, rfl, HQ, S1⟩ := hcut
                    have HEND : Aside (∀ d3, PermIn mid b d2 d3 → SortedIn (ltOf cf) mid b d3 → PermIn a b d d3 ∧ SortedIn (ltOf cf) a b d3) := fun d3 p2 o2 =>
                      HH.out.whole hO (by have := HE.out; omega) (by have := HE.out; omega) hb HR2.out.1 HR2.out.2 p2 o2
                    cases q
                    · have hno : ¬ (mid < e ∧ e < b) := fun h => Bool.noConfusion (HQ.out.2 h)
                      have HR : Aside (SortedIn (ltOf cf) mid b d2) := by
                        have := HE.out
                        rcases Nat.lt_or_ge mid e with c | c
                        · rw [show b = e by omega]; exact K3.out.1
                        · rw [show mid = e by omega]; exact K3.out.2
                      clear hno
                      go_wp2_with fail
                      go_end0
                      obtain ⟨u1, u2⟩ := HEND.out d2 (permIn_refl _ _ _) HR.out
                      exact ⟨rfl, d2, u1, u2, S1.out⟩
                    · obtain ⟨g1, g2⟩ := HQ.out.1 rfl
                      have hcall := IH.out mid e b d2 _ (by have := HN.out; have := HE.out; omega) (by omega) S1.out g1 g2 (by omega) (by omega) K3.out.1 K3.out.2
                      rw [hs2] at hcall
                      clear g1 g2
                      go_wp2_with (go_at_fn 71; refine hcall.mono ?_; rintro e w1 ⟨rfl, d3, hd3, hd4, S3⟩; have HD3 : Aside _ := And.intro hd3 hd4; have HS3 : Aside _ := S3; clear hd3 hd4 S3)
                      go_end0
                      obtain ⟨u1, u2⟩ := HEND.out d3 HD3.out.1 HD3.out.2
                      exact ⟨rfl, d3, u1, u2, HS3.out⟩
end Go.Proofs.Ytpjlkhdolhoeoaa
