/- Walks: the law of the blots (FindBlots, chapter 03). -/
import Derived.Test.YtpjlkhdolhoeoaaFdBr
import Derived.Test.YtpjlkhdolhoeoaaFdArg
namespace Go.Proofs.Ytpjlkhdolhoeoaa
open Go.Shelf Go.RowKit Go.Lib Go.Maps
set_option linter.unusedVariables false
set_option linter.unusedSimpArgs false
set_option maxRecDepth 100000 in
set_option maxHeartbeats 8000000 in
theorem fblotsLaw {w : World} {o : Option Addr} {len cap : Nat} {ss : List Bs} (h : StrsM w o len ss) (s : Bs) (hs : s.length ≤ 9223372036854775807) (by_ : UInt8) :
    Calls Try.prog 4 #[.slice o len cap, .string (strOf s), .int .u8 (by_.toNat : Int)] w fun e w' => e = .returned (.bool true) ∧ Below w.heap.size w w' := by
  have HF := Lib.hid (ffew (cap := cap) h)
  have HS := Lib.hid (fun W => fshort s hs W)
  have hx : (s.take 120).length ≤ 120 := by rw [List.length_take]; omega
  obtain ⟨x, hxx⟩ : ∃ x, s.take 120 = x := ⟨_, rfl⟩
  rw [hxx] at HS hx
  have hfl := fewL_len ss
  have hfm := fewL_mem (ss := ss)
  have hff := few_fit ss
  have hft := few_tot ss
  obtain ⟨ls, hls⟩ : ∃ ls, fewL ss = ls := ⟨_, rfl⟩
  rw [hls] at hfl hfm hff hft HF
  have hl12 : ls.length ≤ 12 := by omega
  have hsl : x.length * ls.length ≤ 1000000 := by
    have := Nat.mul_le_mul hx hl12
    omega
  obtain ⟨bd1, bd2⟩ := blot_doc ls by_ x
  have hZl : (blotTo ls by_ (hitsJ ls x) x x.length).length = x.length := blotTo_len _ _ _ _ _
  have HN := Lib.hid (fun (W : World) (g c : Nat) (h : TxtM W g 0 ls) => fnew (cap := c) h hff (fun s hs => by have := hfm s hs; omega) (fun N hN => stableAny N (by omega)))
  have HB := Lib.hid (fun (w0 wS : World) (M : Nat) (h : MadeM w0 M ls wS) => fblot h (by omega) x (by omega) hsl by_)
  have RB := Lib.hid (fun (W : World) (g c : Nat) (h : TxtM W g 0 ls) => fblotR (cap := c) h (by omega) (fun s hs => by have := hfm s hs; omega) x (by omega) hsl by_)
  have HA := Lib.hid (fun (w0 wS : World) (M : Nat) (h : MadeM w0 M ls wS) => fhas h (by omega) (blotTo ls by_ (hitsJ ls x) x x.length) (by omega))
  have HNO := Lib.hid (fun (hn : ∀ x ∈ ls, by_ ∉ x) => blot_none (s := x) hn)
  rw [bd1, bd2] at HB
  obtain ⟨n, hn⟩ : ∃ n, ls.length = n := ⟨_, rfl⟩
  rw [hn] at HF HN RB
  obtain ⟨Z, hZ⟩ : ∃ Z, blotTo ls by_ (hitsJ ls x) x x.length = Z := ⟨_, rfl⟩
  obtain ⟨N, hNN⟩ : ∃ N, covN ls (hitsJ ls x) x.length = N := ⟨_, rfl⟩
  rw [hZ] at HB RB HA HNO
  rw [hNN] at HB RB
  have HLN := Lib.hid hn
  have HFM := Lib.hid hfm
  have hn12 : n ≤ 12 := by omega
  clear h hs hxx hx hfl hfm hff hft hls hl12 hsl hn bd1 bd2 hZl hZ hNN
  go_enter Try.func4, Try.ntmps4
  go_upto_region 2 with (first
    | (go_at_call 11; refine HF.out.mono ?_; rintro e w1 ⟨g, c, rfl, ho⟩; have HO := Lib.hid ho; clear ho)
    | (go_at_call 12; refine (HS.out _).mono ?_; rintro e w2 ⟨rfl, rfl⟩))
  have HT := Lib.hid (fun (W : World) (hb : Below w1.heap.size w1 W) => (txt_own HO.out.2.1).keep hb)
  have HNEW := Lib.hid (HN.out w1 g c (txt_own HO.out.2.1))
  go_upto_region 3 with (go_at_call 8; refine HNEW.out.mono ?_; rintro e w2 ⟨M, rfl, hm⟩; have HM := Lib.hid hm; clear hm)
  have H3 := Lib.hid (HB.out _ _ _ HM.out)
  have HB2 := Lib.hid HM.out.bel
  go_upto_region 6 with (go_at_call 13; refine H3.out.mono ?_; rintro e w3 ⟨rfl, hb3⟩; have HB3 := Lib.hid hb3; clear hb3)
  have HB13 := Lib.hid (HB2.out.trans (HB3.out.mono HB2.out.size))
  have H4 := Lib.hid (RB.out w3 g c (HT.out _ HB13.out))
  go_upto_region 7 with (go_at_call 14; refine H4.out.mono ?_; rintro e w4 ⟨rfl, hb4⟩; have HB4 := Lib.hid hb4; clear hb4)
  have HB14 := Lib.hid (HB13.out.trans (HB4.out.mono HB13.out.size))
  have HK := Lib.hid (fun (W : World) (hb : Below w4.heap.size w4 W) => show MadeM w1 M ls W ∧ TxtM W g 0 ls ∧ Below w.heap.size w W from by
    have b3 : Below w3.heap.size w3 W := HB4.out.trans (hb.mono HB4.out.size)
    have b2 : Below w2.heap.size w2 W := HB3.out.trans (b3.mono HB3.out.size)
    have b1 : Below w1.heap.size w1 W := HB2.out.trans (b2.mono HB2.out.size)
    exact ⟨HM.out.keep b2, HT.out W b1, HO.out.2.2.trans (b1.mono HO.out.2.2.size)⟩)
  have HAW := Lib.hid (fun W => fawake W)
  obtain ⟨ZS, hZS⟩ : ∃ ZS, strOf Z = ZS := ⟨_, rfl⟩
  rw [hZS] at HA ⊢
  clear hZS
  go_wp2_with fail
  go_loopw [13] (fun z wr => ∃ i : Nat, z = .int .i64 i ∧ i ≤ n ∧ (∀ y ∈ ls.take i, by_ ∉ y) ∧ Below w4.heap.size w4 wr) (fun z _ => n - (intOf z).toNat)
  case atStart => exact ⟨0, rfl, Nat.zero_le _, by simp, Below.refl _ _⟩
  case round =>
    obtain ⟨i, rfl, hi, hno, hb⟩ := hrel
    have HNI := Lib.hid hno
    have HBI := Lib.hid hb
    clear hno hb
    by_cases hlt : i < n
    · have i1 : (i : Int) < (n : Int) := by omega
      have i2 : (0 : Int) ≤ (i : Int) := by omega
      have e2 : IntKind.i64.wrap ((i : Int) + 1) = (i : Int) + 1 := IntWalk.i64_in _ (by omega)
      obtain ⟨y, hy⟩ : ∃ y, ls[i]? = some y := ⟨_, List.getElem?_eq_getElem (by have := HLN.out; omega)⟩
      have HY := Lib.hid hy
      have hyl := HFM.out y (List.mem_of_getElem? hy)
      clear hy
      go_wp2_with fail
      go_loopw [14] (fun z wr2 => ∃ c : Nat, z = .int .i64 c ∧ c ≤ y.length ∧ by_ ∉ y.take c ∧ Below w4.heap.size w4 wr2) (fun z _ => y.length - (intOf z).toNat)
      case atStart => exact ⟨0, rfl, Nat.zero_le _, by simp, HBI.out⟩
      case round =>
        obtain ⟨c, rfl, hc, hnc, hb⟩ := hrel
        have HNC := Lib.hid hnc
        have HBC := Lib.hid hb
        have ht0 := (HK.out wr hb).2.1 i y HY.out
        rw [Nat.zero_add] at ht0
        have hys := strOf_size y
        clear hnc hb
        by_cases hcl : c < y.length
        · have c1 : (c : Int) < (y.length : Int) := by omega
          have c2 : (0 : Int) ≤ (c : Int) := by omega
          have e3 : IntKind.i64.wrap ((c : Int) + 1) = (c : Int) + 1 := IntWalk.i64_in _ (by omega)
          obtain ⟨d, hd⟩ : ∃ d, y[c]? = some d := ⟨_, List.getElem?_eq_getElem hcl⟩
          have hltn : c < (strOf y).size := by omega
          have hby := byteF hd hltn
          have HD := Lib.hid hd
          clear hd
          by_cases hdb : d = by_
          · subst hdb
            go_wp2_with (go_at_call 10; refine (HAW.out _).mono ?_; rintro e w10 ⟨rfl, hb10⟩; have HB10 := Lib.hid hb10; clear hb10)
            go_ret
            have h9 := (HK.out _ HBC.out).2.2
            exact ⟨rfl, h9.trans (HB10.out.mono h9.size)⟩
          · have hdz : ((d.toNat : Int) == (by_.toNat : Int)) = false := by
              rw [beq_eq_false_iff_ne]
              intro e
              exact hdb (UInt8.toNat_inj.1 (by omega))
            have hdz2 : ¬ (d.toNat : Int) = (by_.toNat : Int) := fun e => hdb (UInt8.toNat_inj.1 (by omega))
            have HN2 := Lib.hid (show by_ ∉ y.take (c + 1) by
              rw [List.take_add_one, HD.out]
              intro hm
              rcases List.mem_append.1 hm with h1 | h1
              · exact HNC.out h1
              · simp at h1; exact hdb h1.symm)
            go_wp2_with fail
            go_roundw
            case rel => exact ⟨c + 1, by go_num, hcl, HN2.out, HBC.out⟩
            case measure => simp [intOf]; omega
        · have c1 : ¬ (c : Int) < (y.length : Int) := by omega
          have HN2 := Lib.hid (show ∀ z ∈ ls.take (i + 1), by_ ∉ z by
            intro z hz
            rw [List.take_add_one, HY.out] at hz
            rcases List.mem_append.1 hz with h1 | h1
            · exact HNI.out z h1
            · simp at h1
              subst h1
              have := HNC.out
              rwa [List.take_of_length_le (by omega)] at this)
          go_wp2_with fail
          go_roundw
          case rel => exact ⟨i + 1, by go_num, hlt, HN2.out, HBC.out⟩
          case measure => simp [intOf]; omega
    · have i1 : ¬ (i : Int) < (n : Int) := by omega
      have hno := HNI.out
      rw [List.take_of_length_le (by have := HLN.out; omega)] at hno
      have hz := HNO.out hno
      have hhas := HA.out _ _ _ (HK.out _ HBI.out).1
      rw [hz] at hhas
      have HHAS := Lib.hid hhas
      clear hno hz hhas
      go_wp2_with (first
        | (go_at_call 15; refine HHAS.out.mono ?_; rintro e w9 ⟨rfl, hb9⟩; have HB9 := Lib.hid (HBI.out.trans (hb9.mono HBI.out.size)); clear hb9)
        | (go_at_call 10; refine (HAW.out _).mono ?_; rintro e w10 ⟨rfl, hb10⟩; have HB10 := Lib.hid hb10; clear hb10))
      go_ret
      have h9 := (HK.out _ HB9.out).2.2
      exact ⟨rfl, h9.trans (HB10.out.mono h9.size)⟩
theorem fblotsArg {w : World} {o : Option Addr} {len cap : Nat} {ss : List Bs} (h : StrsM w o len ss) (s : ByteArray) (hs : s.size ≤ maxLen) (a : Int) (ha : 0 ≤ a ∧ a ≤ 255) :
    Calls Try.prog 4 #[.slice o len cap, .string s, .int .u8 a] w fun e w' => e = .returned (.bool true) ∧ Below w.heap.size w w' := by
  have h2 : ((UInt8.ofNat a.toNat).toNat : Int) = a := by rw [UInt8.toNat_ofNat']; omega
  have h1 := fblotsLaw (cap := cap) h s.data.toList (by have : s.data.toList.length = s.size := rfl; unfold maxLen at hs; omega) (UInt8.ofNat a.toNat)
  rw [strOf_data, h2] at h1
  exact h1
end Go.Proofs.Ytpjlkhdolhoeoaa
