/- Walks: the document's Same of two rows of texts (chapter 1). -/
import Derived.Test.YtjnmcadfaombjaaJsW
import Derived.Outline
import Derived.Test.YtjnmcadfaombjaaUtfJ
import Derived.Test.YtjnmcadfaombjaaJtG4
import Derived.Test.YtjnmcadfaombjaaJsSpec
import Derived.Deep.AppendLies
namespace Go.Proofs.Ytjnmcadfaombjaa
open Go.RowKit
set_option linter.unusedVariables false
set_option linter.unusedSimpArgs false
theorem strC_at {ks : List (List UInt8)} {j : Nat} {u : List UInt8} (h : ks[j]? = some u) : (strC ks)[j]? = some (.string (strOf u)) := by
  unfold strC; rw [List.getElem?_map, h]; rfl
/-- A row of texts in memory. -/
def TxtR (w : World) (ks : List (List UInt8)) (v : Value) : Prop := ∃ ao cap, v = .slice ao ks.length cap ∧
  ∀ (j : Nat) (u : List UInt8), ks[j]? = some u → ∃ g, ao = some ⟨g, 0, none⟩ ∧ g < w.heap.size ∧ w.cell? ⟨g, j, none⟩ = some (.string (strOf u))
theorem TxtR.of {w : World} {ok : Nat → Prop} {v : Value} {ks : List (List UInt8)} (h : RowW w ok v ks.length (strC ks)) : TxtR w ks v := by
  rcases h with ⟨hv, h0, _⟩ | ⟨g, cap, hv, _, hl, hc⟩
  · exact ⟨none, 0, by rw [hv, h0], fun j u hu => by rw [List.getElem?_eq_none (by omega)] at hu; cases hu⟩
  · exact ⟨_, cap, hv, fun j u hu => ⟨g, rfl, hl, hc j _ (strC_at hu)⟩⟩
theorem str_same (a b : List UInt8) : ((strOf a).toList == (strOf b).toList) = decide (a = b) := by
  rw [ByteArray.toList_eq, ByteArray.toList_eq, strOf_list, strOf_list]
  by_cases h : a = b <;> simp [h]
set_option maxRecDepth 100000 in
set_option maxHeartbeats 1000000 in
theorem rsame_any (ks ks2 : List (List UInt8)) (v v2 : Value) (w : World) (h1 : TxtR w ks v) (h2 : TxtR w ks2 v2) (l1 : ks.length ≤ 1000000) (l2 : ks2.length ≤ 1000000) :
    Calls Try.prog 31 #[v, v2] w fun e w' => e = .returned (.bool (decide (ks = ks2))) ∧ Below w.heap.size w w' := by
  obtain ⟨a1, p1, rfl, C1⟩ := h1
  obtain ⟨a2, p2, rfl, C2⟩ := h2
  by_cases hn : ks.length = ks2.length
  · have HC2 := Lib.hid C2
    have HC1 := Lib.hid C1
    have HN := Lib.hid hn
    have hq : ((ks.length : Int) == (ks.length : Int)) = true := by simp
    rw [← hn]
    clear C1 C2 hn l2
    go_enter Try.func31, Try.ntmps31
    go_wp2_with fail
    go_loopw [5] (fun z wr => ∃ i : Nat, z = .int .i64 i ∧ i ≤ ks.length ∧ (∀ j, j < i → ks[j]? = ks2[j]?) ∧ Below w.heap.size w wr) (fun z _ => ks.length - (intOf z).toNat)
    case atStart => exact ⟨0, rfl, Nat.zero_le _, fun j hj => by omega, Below.refl _ _⟩
    case round =>
      obtain ⟨i, rfl, hi, hs, hb⟩ := hrel
      have HS := Lib.hid hs
      have HB := Lib.hid hb
      clear hs hb
      by_cases hlt : i < ks.length
      · obtain ⟨u, hu⟩ : ∃ u, ks[i]? = some u := ⟨_, List.getElem?_eq_getElem hlt⟩
        obtain ⟨u2, hu2⟩ : ∃ u, ks2[i]? = some u := ⟨_, List.getElem?_eq_getElem (by have := HN.out; omega)⟩
        obtain ⟨g1, rfl, hg1, d1⟩ := HC1.out i u hu
        obtain ⟨g2, rfl, hg2, d2⟩ := HC2.out i u2 hu2
        have e1 := (HB.out.cell (p := ⟨g1, i, none⟩) hg1).trans d1
        have e2 := (HB.out.cell (p := ⟨g2, i, none⟩) hg2).trans d2
        obtain ⟨b, hb⟩ : ∃ b, decide (u = u2) = b := ⟨_, rfl⟩
        have hb2 := (str_same u u2).trans hb
        have HBB := Lib.hid hb
        generalize strOf u = x at *
        generalize strOf u2 = y at *
        have HU := Lib.hid hu
        have HU2 := Lib.hid hu2
        clear d1 d2 hb hu hu2
        go_wp2_with fail
        go_region_held3 (fun w' => w'.cell? ⟨g1, i, none⟩ = some (.string x) ∧ w'.cell? ⟨g2, i, none⟩ = some (.string y)) (exact ⟨e1, e2⟩) (fail)
        cases b
        · go_wp2_with fail
          go_ret
          refine ⟨?_, HB.out.drew⟩
          rw [decide_eq_false (fun h => of_decide_eq_false HBB.out (by subst h; exact Option.some.inj (HU.out.symm.trans HU2.out)))]; rfl
        · go_wp2_with fail
          go_roundw
          case rel =>
            refine ⟨i + 1, by go_num, by omega, fun j hj => ?_, HB.out.drew⟩
            rcases Nat.lt_or_ge j i with h | h
            · exact HS.out j h
            · obtain rfl : j = i := by omega
              rw [HU.out, HU2.out, of_decide_eq_true HBB.out]
          case measure => simp [intOf]; omega
      · go_wp2_with fail
        go_ret
        refine ⟨?_, HB.out⟩
        rw [decide_eq_true (List.ext_getElem? fun j => ?_)]
        · rfl
        · rcases Nat.lt_or_ge j i with h | h
          · exact HS.out j h
          · rw [List.getElem?_eq_none (by omega), List.getElem?_eq_none (by have := HN.out; omega)]
  · have hq : ((ks.length : Int) == (ks2.length : Int)) = false := by simp; omega
    have HV : Hid (decide (ks = ks2) = false) := decide_eq_false (fun h => hn (by rw [h]))
    clear C1 C2
    go_enter Try.func31, Try.ntmps31
    go_wp2_with fail
    go_ret
    exact ⟨by rw [HV.out]; rfl, Below.refl _ _⟩
end Go.Proofs.Ytjnmcadfaombjaa

/- Walks: is a text of some row no UTF-8 (slices.ContainsFunc over texts; chapter 10). -/
namespace Go.Proofs.Ytjnmcadfaombjaa
open Go.RowKit
set_option linter.unusedVariables false
set_option linter.unusedSimpArgs false
theorem txtR_below {w w' : World} {ks : List (List UInt8)} {v : Value} (h : TxtR w ks v) (hb : Below w.heap.size w w') : TxtR w' ks v := by
  obtain ⟨ao, cap, hv, hc⟩ := h
  refine ⟨ao, cap, hv, fun j u hu => ?_⟩
  obtain ⟨g, h1, h2, h3⟩ := hc j u hu
  exact ⟨g, h1, Nat.lt_of_lt_of_le h2 hb.size, (hb.cell (p := ⟨g, j, none⟩) h2).trans h3⟩
theorem fits1_any (s : ByteArray) (w : World) (hs : s.size ≤ 9223372036854775807) :
    Calls Try.prog 49 #[.string s] w fun e w' => e = .returned (.bool (!good s.data.toList)) ∧ Below w.heap.size w w' := by
  have HP := Lib.hid (fun w => pis_any s w hs)
  generalize good s.data.toList = b at *
  go_enter Try.func49, Try.ntmps49
  go_wp2_with fail
  refine (HP.out _).mono ?_
  rintro e w' ⟨rfl, hb⟩
  go_wp2_with fail
  go_ret
  exact ⟨rfl, hb⟩
theorem first_bad (ks : List (List UInt8)) : (∃ (i : Nat) (u : List UInt8), ks[i]? = some u ∧ good u = false ∧ ∀ (j : Nat) (u : List UInt8), j < i → ks[j]? = some u → good u = true) ∨ (∀ (j : Nat) (u : List UInt8), ks[j]? = some u → good u = true) := by
  induction ks with
  | nil => exact .inr fun j u h => by simp at h
  | cons k ks ih =>
    cases hk : good k
    · exact .inl ⟨0, k, rfl, hk, fun j u hj => by omega⟩
    · rcases ih with ⟨i, u, h1, h2, h3⟩ | h
      · refine .inl ⟨i + 1, u, h1, h2, fun j u' hj hu => ?_⟩
        cases j with
        | zero => cases hu; exact hk
        | succ j => exact h3 j u' (by omega) hu
      · refine .inr fun j u hu => ?_
        cases j with
        | zero => cases hu; exact hk
        | succ j => exact h j u hu
set_option maxHeartbeats 1000000 in
theorem idxS_any (ks : List (List UInt8)) (v : Value) (w : World) (h : TxtR w ks v) (hl : ks.length ≤ 1000000) (hk : ∀ u ∈ ks, u.length ≤ 9223372036854775807) :
    ∃ r : Int, decide (0 ≤ r) = (ks.any fun k => !good k) ∧ Calls Try.prog 68 #[v, .func (Fn.func 49) #[] #[]] w fun e w' => e = .returned (.int .i64 r) ∧ Below w.heap.size w w' := by
  have HF := Lib.hid (fun s w hs => fits1_any s w hs)
  obtain ⟨ao, cap, rfl, C⟩ := h
  rcases first_bad ks with ⟨i, u, hu, hg, hj⟩ | hall
  · have hi := (List.getElem?_eq_some_iff.1 hu).1
    refine ⟨i, ?_, ?_⟩
    · rw [decide_eq_true (by omega)]
      symm
      rw [List.any_eq_true]
      exact ⟨u, List.mem_of_getElem? hu, by rw [hg]; rfl⟩
    · have HJ := Lib.hid hj
      have HU := Lib.hid (And.intro hu hg)
      have HC := Lib.hid C
      have HK := Lib.hid hk
      clear hj hu hg C hk
      go_enter Try.func68, Try.ntmps68
      go_wp2_with fail
      go_loopw [8] (fun z wr => ∃ k : Nat, z = .int .i64 k ∧ k ≤ i ∧ Below w.heap.size w wr) (fun z _ => ks.length - (intOf z).toNat)
      case atStart => exact ⟨0, rfl, Nat.zero_le _, Below.refl _ _⟩
      case round =>
        obtain ⟨k, rfl, hki, hb⟩ := hrel
        have HB := Lib.hid hb
        clear hb
        have hkl : k < ks.length := by omega
        obtain ⟨x, hx⟩ : ∃ x, ks[k]? = some x := ⟨_, List.getElem?_eq_getElem hkl⟩
        obtain ⟨g, rfl, hgl, d0⟩ := HC.out k x hx
        have e0 := (HB.out.cell (p := ⟨g, k, none⟩) hgl).trans d0
        have hsz := HK.out x (List.mem_of_getElem? hx)
        have HFx := Lib.hid (fun w => HF.out (strOf x) w (by rw [strOf_size]; exact hsz))
        rw [strOf_list] at HFx
        have HX := Lib.hid hx
        clear d0 hx hsz
        generalize strOf x = y at *
        by_cases hlt : k < i
        · have hgx := HJ.out k x hlt HX.out
          rw [hgx] at HFx
          clear hgx
          go_wp2_with fail
          refine (HFx.out _).mono ?_
          rintro e w2 ⟨rfl, b2⟩
          go_wp2_with fail
          go_roundw
          case rel => exact ⟨k + 1, by go_num, hlt, HB.out.trans (b2.mono HB.out.size)⟩
          case measure => simp [intOf]; omega
        · obtain rfl : k = i := by omega
          have hgx : good x = false := by have h1 := HU.out.1; have h2 := HX.out; rw [h1] at h2; rw [← Option.some.inj h2]; exact HU.out.2
          rw [hgx] at HFx
          clear hgx
          go_wp2_with fail
          refine (HFx.out _).mono ?_
          rintro e w2 ⟨rfl, b2⟩
          go_wp2_with fail
          go_ret
          exact ⟨rfl, HB.out.trans (b2.mono HB.out.size)⟩
  · refine ⟨-1, ?_, ?_⟩
    · rw [decide_eq_false (by omega)]
      symm
      rw [List.any_eq_false]
      intro u hu
      obtain ⟨j, hj⟩ := List.getElem?_of_mem hu
      rw [hall j u hj]; simp
    · have HJ := Lib.hid hall
      have HC := Lib.hid C
      have HK := Lib.hid hk
      clear hall C hk
      go_enter Try.func68, Try.ntmps68
      go_wp2_with fail
      go_loopw [8] (fun z wr => ∃ k : Nat, z = .int .i64 k ∧ k ≤ ks.length ∧ Below w.heap.size w wr) (fun z _ => ks.length - (intOf z).toNat)
      case atStart => exact ⟨0, rfl, Nat.zero_le _, Below.refl _ _⟩
      case round =>
        obtain ⟨k, rfl, hki, hb⟩ := hrel
        have HB := Lib.hid hb
        clear hb
        by_cases hkl : k < ks.length
        · obtain ⟨x, hx⟩ : ∃ x, ks[k]? = some x := ⟨_, List.getElem?_eq_getElem hkl⟩
          obtain ⟨g, rfl, hgl, d0⟩ := HC.out k x hx
          have e0 := (HB.out.cell (p := ⟨g, k, none⟩) hgl).trans d0
          have hsz := HK.out x (List.mem_of_getElem? hx)
          have HFx := Lib.hid (fun w => HF.out (strOf x) w (by rw [strOf_size]; exact hsz))
          rw [strOf_list, HJ.out k x hx] at HFx
          clear d0 hx hsz
          generalize strOf x = y at *
          go_wp2_with fail
          refine (HFx.out _).mono ?_
          rintro e w2 ⟨rfl, b2⟩
          go_wp2_with fail
          go_roundw
          case rel => exact ⟨k + 1, by go_num, hkl, HB.out.trans (b2.mono HB.out.size)⟩
          case measure => simp [intOf]; omega
        · go_wp2_with fail
          go_ret
          exact ⟨rfl, HB.out⟩
/-- slices.ContainsFunc over texts. -/
theorem hasS_any (ks : List (List UInt8)) (v : Value) (w : World) (h : TxtR w ks v) (hl : ks.length ≤ 1000000) (hk : ∀ u ∈ ks, u.length ≤ 9223372036854775807) :
    Calls Try.prog 48 #[v, .func (Fn.func 49) #[] #[]] w fun e w' => e = .returned (.bool (ks.any fun k => !good k)) ∧ Below w.heap.size w w' := by
  obtain ⟨r, hr, hi⟩ := idxS_any ks v w h hl hk
  obtain ⟨ao, cap, rfl, _⟩ := h
  have HI := Lib.hid hi
  rw [← hr]
  clear hi hr
  go_enter Try.func48, Try.ntmps48
  go_wp2_with fail
  refine HI.out.mono ?_
  rintro e w2 ⟨rfl, b2⟩
  go_wp2_with fail
  go_ret
  exact ⟨rfl, b2⟩
end Go.Proofs.Ytjnmcadfaombjaa

/- Walks: is a text just one token (chapter 10). -/
namespace Go.Proofs.Ytjnmcadfaombjaa
open Go.RowKit
set_option linter.unusedVariables false
set_option linter.unusedSimpArgs false
def aloneB (l : List UInt8) (kind : Nat) : Bool := match toks l with
  | some [t] => decide (t.kind = kind) && decide (t.text = l)
  | _ => false
set_option maxHeartbeats 2000000 in
theorem jalone (s : ByteArray) (q : Nat) (w : World) (hs : s.size ≤ 100000) :
    Calls Try.prog 47 #[.string s, .int .u8 q] w fun e w' => e = .returned (.bool (aloneB s.data.toList q)) ∧ Below w.heap.size w w' := by
  have HT := Lib.hid (fun w => jtokens s w hs)
  have HV : Hid (aloneB s.data.toList q = match toks s.data.toList with
    | some [t] => decide (t.kind = q) && decide (t.text = s.data.toList)
    | _ => false) := rfl
  cases htk : toks s.data.toList with
  | none =>
    rw [htk] at HT HV
    have HT2 : Hid (∀ w, Calls Try.prog 9 #[.string s] w fun e w' => e = .returned (.tuple #[.slice none 0 0, .int .i64 7]) ∧ Below w.heap.size w w') := HT
    clear HT htk
    go_enter Try.func47, Try.ntmps47
    go_wp2_with fail
    refine (HT2.out _).mono ?_
    rintro e w2 ⟨rfl, b2⟩
    go_wp2_with fail
    go_ret
    exact ⟨by rw [HV.out]; rfl, b2⟩
  | some ts =>
    have hlen := toks_len htk
    have hl := sz_len s
    rw [htk] at HT HV
    have HT2 : Hid (∀ w, Calls Try.prog 9 #[.string s] w fun e w' => (∃ v, e = .returned (.tuple #[v, .int .i64 0]) ∧ w'.ownsRow w.heap.size 31 4 v ts.length (tokCs ts)) ∧ Below w.heap.size w w') := HT
    clear HT htk
    by_cases h1 : ts.length = 1
    · obtain ⟨t, rfl⟩ : ∃ t, ts = [t] := by
        match ts, h1 with
        | [t], _ => exact ⟨t, rfl⟩
      dsimp only at HV
      obtain ⟨bk, hbk⟩ : ∃ bk, decide (t.kind = q) = bk := ⟨_, rfl⟩
      obtain ⟨bt', hbt⟩ : ∃ bt', decide (t.text = s.data.toList) = bt' := ⟨_, rfl⟩
      have q1 : ((t.kind : Int) == (q : Int)) = bk := by
        rw [← hbk]; by_cases h : t.kind = q
        · simp [h]
        · have : ¬ ((t.kind : Int) = (q : Int)) := by omega
          simp [h, this]
      have q2 : ((strOf t.text).toList == s.toList) = bt' := by
        rw [← hbt, ByteArray.toList_eq, ByteArray.toList_eq, strOf_list]
        by_cases h : t.text = s.data.toList <;> simp [h]
      rw [hbk, hbt] at HV
      clear hbk hbt h1 hlen hl
      have hone : ([t] : List Tok).length = 1 := rfl
      rw [hone] at HT2
      go_enter Try.func47, Try.ntmps47
      go_wp2_with fail
      refine (HT2.out _).mono ?_
      rintro e w2 ⟨⟨v, rfl, ho⟩, b2⟩
      obtain ⟨ao, cap, rfl, _, hT⟩ := tok_rowJ (ts := [t]) ho
      obtain ⟨g, rfl, hg, c0, c1, _, _⟩ := tok_facts4 (j := 0) hT rfl
      have d0 : w2.cell? ⟨g, 0, none⟩ = some (.int .u8 t.kind) := c0
      have d1 : w2.cell? ⟨g, 1, none⟩ = some (.string (strOf t.text)) := c1
      have hone : ([t] : List Tok).length = 1 := rfl
      clear hT ho c0 c1
      generalize strOf t.text = x at *
      generalize t.kind = z at *
      cases bk
      · go_wp2_with fail
        go_ret
        exact ⟨by rw [HV.out]; rfl, b2⟩
      · go_wp2_with fail
        go_ret
        exact ⟨by rw [HV.out]; rfl, b2⟩
    · have HV2 : Hid (aloneB s.data.toList q = false) := by
        show _ = _; rw [HV.out]
        match ts, h1 with
        | [], _ => rfl
        | [t], h1 => exact absurd rfl h1
        | a :: b :: r, _ => rfl
      have hq : ((ts.length : Int) == 1) = false := by simp; omega
      clear HV h1
      go_enter Try.func47, Try.ntmps47
      go_wp2_with fail
      refine (HT2.out _).mono ?_
      rintro e w2 ⟨⟨v, rfl, ho⟩, b2⟩
      obtain ⟨ao, cap, rfl, _, hT⟩ := tok_rowJ ho
      clear hT ho
      go_wp2_with fail
      go_ret
      exact ⟨by rw [HV2.out]; rfl, b2⟩
end Go.Proofs.Ytjnmcadfaombjaa

/- Walks: may a node come of Parse (json.fits; chapter 10). -/
namespace Go.Proofs.Ytjnmcadfaombjaa
open Go.RowKit
set_option linter.unusedVariables false
set_option linter.unusedSimpArgs false
def okK (q : Nat) (t : List UInt8) (ks : List (List UInt8)) (ns : List Node) : Bool :=
  if q = 34 then decide (ks.length + ns.length = 0)
  else if q = 48 ∨ q = 97 then decide (ks.length + ns.length = 0) && aloneB t q
  else if q = 91 then decide (ks.length = 0) && decide (t = [])
  else if q = 123 then decide (ks.length = ns.length) && (ks.all fun k => good k) && decide (t = [])
  else false
mutual
def fitsN : Node → Nat → Bool
  | .mk q t ks ns, d => decide (d ≤ 32) && good t && okK q t ks ns && fitsL ns (d + 1)
def fitsL : List Node → Nat → Bool
  | [], _ => true
  | n :: ns, d => fitsN n d && fitsL ns d
end
mutual
/-- A node of bounded parts. -/
def SmallN : Node → Prop
  | .mk q t ks ns => t.length ≤ 100000 ∧ (∀ k ∈ ks, k.length ≤ 100000) ∧ ks.length ≤ 100000 ∧ ns.length ≤ 100000 ∧ SmallL ns
def SmallL : List Node → Prop
  | [] => True
  | n :: ns => SmallN n ∧ SmallL ns
end
theorem fitsL_at {ns : List Node} {d : Nat} : fitsL ns d = true ↔ ∀ (j : Nat) (n : Node), ns[j]? = some n → fitsN n d = true := by
  induction ns with
  | nil => simp [fitsL]
  | cons m ns ih =>
    rw [fitsL, Bool.and_eq_true, ih]
    constructor
    · rintro ⟨h1, h2⟩ j n hn
      cases j with
      | zero => cases hn; exact h1
      | succ j => exact h2 j n hn
    · intro h
      exact ⟨h 0 m rfl, fun j n hn => h (j + 1) n hn⟩
theorem SmallL.at {ns : List Node} (h : SmallL ns) {j : Nat} {n : Node} (hn : ns[j]? = some n) : SmallN n := by
  induction ns generalizing j with
  | nil => simp at hn
  | cons m ns ih =>
    unfold SmallL at h
    cases j with
    | zero => cases hn; exact h.1
    | succ j => exact ih h.2 hn
/-- What fits is told of a node. -/
def FitC (n : Node) (d : Nat) : Prop := ∀ (ok : Nat → Prop) (a b c e : Value) (w : World), NodeW w ok n (.agg #[a, b, c, e]) → Calls Try.prog 32 #[.agg #[a, b, c, e], .int .i64 d] w fun x w' => x = .returned (.bool (fitsN n d)) ∧ Below w.heap.size w w'
-- WALKS
theorem fits2_any (n : Node) (d D : Nat) (ok : Nat → Prop) (a b c e : Value) (w : World) (hn : NodeW w ok n (.agg #[a, b, c, e])) (hd : d ≤ 1000) (hD : w.cell? ⟨D, 0, none⟩ = some (.int .i64 d)) (hDl : D < w.heap.size) (hF : FitC n (d + 1)) :
    Calls Try.prog 51 #[.agg #[a, b, c, e], .pointer (some ⟨D, 0, none⟩)] w fun x w' => x = .returned (.bool (!fitsN n (d + 1))) ∧ Below w.heap.size w w' := by
  obtain ⟨u1, u2, u3, u4, u5, u6, u7, u8, rfl, rfl, rfl, rfl⟩ := node_shape hn
  have hb := (Below.refl w.heap.size w).alloc (Nat.le_refl _) (.cells #[.int .u8 u1, .string u2, .slice u3 u4 u5, .slice u6 u7 u8] 39)
  have HB := Lib.hid hb
  have HF := Lib.hid (hF ok _ _ _ _ _ (NodeW.mono (ok' := ok) (fun g hg hl => ⟨hg, by simp; omega, Below.heap_alloc w (.cells #[.int .u8 u1, .string u2, .slice u3 u4 u5, .slice u6 u7 u8] 39) g hl⟩) n _ hn))
  have e0 := (hb.cell (p := ⟨D, 0, none⟩) hDl).trans hD
  generalize fitsN n (d + 1) = r at *
  clear hn hF hb hD
  go_enter Try.func51, Try.ntmps51
  go_wp2_with fail
  refine HF.out.mono ?_
  rintro x w2 ⟨rfl, b2⟩
  go_wp2_with fail
  go_ret
  exact ⟨rfl, HB.out.trans (b2.mono HB.out.size)⟩
theorem first_misfit (ns : List Node) (d : Nat) : (∃ (i : Nat) (n : Node), ns[i]? = some n ∧ fitsN n d = false ∧ ∀ (j : Nat) (m : Node), j < i → ns[j]? = some m → fitsN m d = true) ∨ (∀ (j : Nat) (m : Node), ns[j]? = some m → fitsN m d = true) := by
  induction ns with
  | nil => exact .inr fun j u h => by simp at h
  | cons k ks ih =>
    cases hk : fitsN k d
    · exact .inl ⟨0, k, rfl, hk, fun j u hj => by omega⟩
    · rcases ih with ⟨i, u, h1, h2, h3⟩ | h
      · refine .inl ⟨i + 1, u, h1, h2, fun j u' hj hu => ?_⟩
        cases j with
        | zero => cases hu; exact hk
        | succ j => exact h3 j u' (by omega) hu
      · refine .inr fun j u hu => ?_
        cases j with
        | zero => cases hu; exact hk
        | succ j => exact h j u hu
/-- A kid in memory. -/
theorem kid_at {w wr : World} {ok : Nat → Prop} {v : Value} {ns : List Node} {cs : List Value} (hr : RowW w ok v ns.length cs) (hk : KidsW w ok ns cs) {j : Nat} {n : Node} (hn : ns[j]? = some n) (hb : Below w.heap.size w wr) :
    ∃ (g cap : Nat) (a b c d : Value), v = .slice (some ⟨g, 0, none⟩) ns.length cap ∧ wr.cell? ⟨g, j * 4, none⟩ = some a ∧ wr.cell? ⟨g, j * 4 + 1, none⟩ = some b ∧ wr.cell? ⟨g, j * 4 + 2, none⟩ = some c ∧ wr.cell? ⟨g, j * 4 + 3, none⟩ = some d ∧ NodeW wr ok n (.agg #[a, b, c, d]) := by
  obtain ⟨a, b, c, d, e1, e2, e3, e4, x⟩ := KidsW.at ns cs j n hk hn
  rcases hr with ⟨_, h0, hc⟩ | ⟨g, cap, hv, hg, hl, hc⟩
  · have h1 := List.length_eq_zero_iff.1 h0
    subst h1; simp at hn
  · exact ⟨g, cap, a, b, c, d, hv, (hb.cell (p := ⟨g, j * 4, none⟩) hl).trans (hc _ _ e1), (hb.cell (p := ⟨g, j * 4 + 1, none⟩) hl).trans (hc _ _ e2), (hb.cell (p := ⟨g, j * 4 + 2, none⟩) hl).trans (hc _ _ e3), (hb.cell (p := ⟨g, j * 4 + 3, none⟩) hl).trans (hc _ _ e4),
      NodeW.mono (fun g hg hl => ⟨hg, Nat.lt_of_lt_of_le hl hb.size, hb.block g hl⟩) n _ x⟩
theorem rowW_len {w : World} {ok : Nat → Prop} {v : Value} {n : Nat} {xs : List Value} (h : RowW w ok v n xs) : ∃ o c, v = .slice o n c := by
  rcases h with ⟨hv, h0, _⟩ | ⟨g, cap, hv, _⟩
  · exact ⟨_, _, by rw [hv, h0]⟩
  · exact ⟨_, _, hv⟩
set_option maxHeartbeats 2000000 in
theorem idxN_any (ns : List Node) (cs : List Value) (ok : Nat → Prop) (v : Value) (d D : Nat) (w : World) (hr : RowW w ok v ns.length cs) (hk : KidsW w ok ns cs) (hl : ns.length ≤ 1000000) (hd : d ≤ 1000) (hD : w.cell? ⟨D, 0, none⟩ = some (.int .i64 d)) (hDl : D < w.heap.size)
    (hF : ∀ (j : Nat) (n : Node), ns[j]? = some n → FitC n (d + 1)) :
    ∃ r : Int, decide (0 ≤ r) = !fitsL ns (d + 1) ∧ Calls Try.prog 69 #[v, .func (Fn.func 51) #[] #[.pointer (some ⟨D, 0, none⟩)]] w fun e w' => e = .returned (.int .i64 r) ∧ Below w.heap.size w w' := by
  have HR := Lib.hid hr
  have HK := Lib.hid hk
  have HD := Lib.hid hD
  have HF := Lib.hid hF
  obtain ⟨o1, cap, rfl⟩ := rowW_len hr
  clear hr hk hD hF
  rcases first_misfit ns (d + 1) with ⟨i, n, hn, hg, hj⟩ | hall
  · have hi := (List.getElem?_eq_some_iff.1 hn).1
    refine ⟨i, ?_, ?_⟩
    · rw [decide_eq_true (by omega)]
      have : fitsL ns (d + 1) = false := by
        rw [Bool.eq_false_iff]; intro h
        rw [fitsL_at.1 h i n hn] at hg; cases hg
      rw [this]; rfl
    · have HJ := Lib.hid hj
      have HU := Lib.hid (And.intro hn hg)
      clear hj hn hg
      go_enter Try.func69, Try.ntmps69
      go_wp2_with fail
      go_loopw [8] (fun z wr => ∃ k : Nat, z = .int .i64 k ∧ k ≤ i ∧ Below w.heap.size w wr) (fun z _ => ns.length - (intOf z).toNat)
      case atStart => exact ⟨0, rfl, Nat.zero_le _, Below.refl _ _⟩
      case round =>
        obtain ⟨k, rfl, hki, hb⟩ := hrel
        have hkl : k < ns.length := by omega
        obtain ⟨m, hm⟩ : ∃ m, ns[k]? = some m := ⟨_, List.getElem?_eq_getElem hkl⟩
        obtain ⟨g, cap', va, vb, vc, vd, hv, c0, c1, c2, c3, hN⟩ := kid_at HR.out HK.out hm hb
        simp only [Value.slice.injEq] at hv
        obtain ⟨rfl, _, rfl⟩ := hv
        have HC := Lib.hid (fits2_any m d D ok va vb vc vd wr hN hd ((hb.cell (p := ⟨D, 0, none⟩) hDl).trans HD.out) (Nat.lt_of_lt_of_le hDl hb.size) (HF.out k m hm))
        have HB := Lib.hid hb
        have HX := Lib.hid hm
        clear hb hm hN
        by_cases hlt : k < i
        · rw [HJ.out k m hlt HX.out] at HC
          go_wp2_with fail
          refine HC.out.mono ?_
          rintro e w2 ⟨rfl, b2⟩
          go_wp2_with fail
          go_roundw
          case rel => exact ⟨k + 1, by go_num, hlt, HB.out.trans (b2.mono HB.out.size)⟩
          case measure => simp [intOf]; omega
        · obtain rfl : k = i := by omega
          have hgx : fitsN m (d + 1) = false := by have h1 := HU.out.1; have h2 := HX.out; rw [h1] at h2; rw [← Option.some.inj h2]; exact HU.out.2
          rw [hgx] at HC
          clear hgx
          go_wp2_with fail
          refine HC.out.mono ?_
          rintro e w2 ⟨rfl, b2⟩
          go_wp2_with fail
          go_ret
          exact ⟨rfl, HB.out.trans (b2.mono HB.out.size)⟩
  · refine ⟨-1, ?_, ?_⟩
    · rw [decide_eq_false (by omega), fitsL_at.2 hall]; rfl
    · have HJ := Lib.hid hall
      clear hall
      go_enter Try.func69, Try.ntmps69
      go_wp2_with fail
      go_loopw [8] (fun z wr => ∃ k : Nat, z = .int .i64 k ∧ k ≤ ns.length ∧ Below w.heap.size w wr) (fun z _ => ns.length - (intOf z).toNat)
      case atStart => exact ⟨0, rfl, Nat.zero_le _, Below.refl _ _⟩
      case round =>
        obtain ⟨k, rfl, hki, hb⟩ := hrel
        by_cases hkl : k < ns.length
        · obtain ⟨m, hm⟩ : ∃ m, ns[k]? = some m := ⟨_, List.getElem?_eq_getElem hkl⟩
          obtain ⟨g, cap', va, vb, vc, vd, hv, c0, c1, c2, c3, hN⟩ := kid_at HR.out HK.out hm hb
          simp only [Value.slice.injEq] at hv
          obtain ⟨rfl, _, rfl⟩ := hv
          have HC := Lib.hid (fits2_any m d D ok va vb vc vd wr hN hd ((hb.cell (p := ⟨D, 0, none⟩) hDl).trans HD.out) (Nat.lt_of_lt_of_le hDl hb.size) (HF.out k m hm))
          rw [HJ.out k m hm] at HC
          have HB := Lib.hid hb
          clear hb hm hN
          go_wp2_with fail
          refine HC.out.mono ?_
          rintro e w2 ⟨rfl, b2⟩
          go_wp2_with fail
          go_roundw
          case rel => exact ⟨k + 1, by go_num, hkl, HB.out.trans (b2.mono HB.out.size)⟩
          case measure => simp [intOf]; omega
        · have HB := Lib.hid hb
          clear hb
          go_wp2_with fail
          go_ret
          exact ⟨rfl, HB.out⟩
/-- slices.ContainsFunc over nodes. -/
theorem hasN_any (ns : List Node) (cs : List Value) (ok : Nat → Prop) (v : Value) (d D : Nat) (w : World) (hr : RowW w ok v ns.length cs) (hk : KidsW w ok ns cs) (hl : ns.length ≤ 1000000) (hd : d ≤ 1000) (hD : w.cell? ⟨D, 0, none⟩ = some (.int .i64 d)) (hDl : D < w.heap.size)
    (hF : ∀ (j : Nat) (n : Node), ns[j]? = some n → FitC n (d + 1)) :
    Calls Try.prog 50 #[v, .func (Fn.func 51) #[] #[.pointer (some ⟨D, 0, none⟩)]] w fun e w' => e = .returned (.bool (!fitsL ns (d + 1))) ∧ Below w.heap.size w w' := by
  obtain ⟨r, hr1, hi⟩ := idxN_any ns cs ok v d D w hr hk hl hd hD hDl hF
  obtain ⟨o1, cap, rfl⟩ := rowW_len hr
  have HI := Lib.hid hi
  rw [← hr1]
  clear hi hr1 hr hk hF hD
  go_enter Try.func50, Try.ntmps50
  go_wp2_with fail
  refine HI.out.mono ?_
  rintro e w2 ⟨rfl, b2⟩
  go_wp2_with fail
  go_ret
  exact ⟨rfl, b2⟩
end Go.Proofs.Ytjnmcadfaombjaa

/- Walks: json.fits and json.Is (chapter 10). -/
namespace Go.Proofs.Ytjnmcadfaombjaa
open Go.RowKit
set_option linter.unusedVariables false
set_option linter.unusedSimpArgs false
theorem SmallL.all {ns : List Node} (h : SmallL ns) : ∀ n ∈ ns, SmallN n := fun n hn => by
  obtain ⟨j, hj⟩ := List.getElem?_of_mem hn
  exact h.at hj
theorem eq_of_dec (n m : Nat) : ((n : Int) == (m : Int)) = decide (n = m) := by
  by_cases h : n = m
  · simp [h]
  · have : ¬ ((n : Int) = (m : Int)) := by omega
    simp [h, this]
theorem sum_zero (n m : Nat) : ((n : Int) + (m : Int) == 0) = decide (n + m = 0) := by
  by_cases h : n + m = 0
  · rw [decide_eq_true h]; have : (n : Int) + m = 0 := by omega
    simp [this]
  · rw [decide_eq_false h]; have : ¬ ((n : Int) + m = 0) := by omega
    simp [this]
theorem str_nil (t : List UInt8) : (strOf t).toList.isEmpty = decide (t = []) := by
  rw [ByteArray.toList_eq, strOf_list]; cases t <;> simp
theorem str_nil2 (t : List UInt8) : ((strOf t).toList == []) = decide (t = []) := by
  rw [ByteArray.toList_eq, strOf_list]; cases t <;> simp
set_option maxRecDepth 100000 in
set_option maxHeartbeats 8000000 in
theorem fits_one (q : Nat) (t : List UInt8) (ks : List (List UInt8)) (ns : List Node) (d : Nat) (ok : Nat → Prop) (a b c e : Value) (w : World) (hn : NodeW w ok (.mk q t ks ns) (.agg #[a, b, c, e])) (hd : d ≤ 1000) (hs : SmallN (.mk q t ks ns))
    (hF : d ≤ 32 → ∀ (j : Nat) (n : Node), ns[j]? = some n → FitC n (d + 1)) :
    Calls Try.prog 32 #[.agg #[a, b, c, e], .int .i64 d] w fun x w' => x = .returned (.bool (fitsN (.mk q t ks ns) d)) ∧ Below w.heap.size w w' := by
  unfold NodeW at hn
  obtain ⟨kv, nv, cs, hv, h1, h2, h3⟩ := hn
  simp only [Value.agg.injEq, Array.mk.injEq, List.cons.injEq, and_true] at hv
  obtain ⟨rfl, rfl, rfl, rfl⟩ := hv
  obtain ⟨o1, c1, rfl⟩ := rowW_len h1
  obtain ⟨o2, c2, rfl⟩ := rowW_len h2
  unfold SmallN at hs
  obtain ⟨s1, s2, s3, s4, s5⟩ := hs
  have HT := Lib.hid (TxtR.of h1)
  have HRW := Lib.hid h2
  have HKW := Lib.hid h3
  have HF := Lib.hid hF
  have HS2 := Lib.hid s2
  have HP := Lib.hid (fun w => pis_any (strOf t) w (by rw [strOf_size]; omega))
  have HA := Lib.hid (fun w => jalone (strOf t) q w (by rw [strOf_size]; omega))
  rw [strOf_list] at HP HA
  have HV : Hid (fitsN (.mk q t ks ns) d = (decide (d ≤ 32) && good t && okK q t ks ns && fitsL ns (d + 1))) := by show _ = _; rw [fitsN]
  have e1 := sum_zero ks.length ns.length
  have e2 := str_nil t
  have e3 := str_nil2 t
  obtain ⟨et, het⟩ : ∃ et, decide (t = []) = et := ⟨_, rfl⟩
  rw [het] at e2 e3
  have HET := Lib.hid het
  generalize hxx : strOf t = x at *
  clear hxx h1 h2 h3 hF s2 s5 het
  have HN0 := Lib.hid ((Blk.new w 39 #[.int .u8 q, .string x, .slice o1 ks.length c1, .slice o2 ns.length c2]).alloc (.cells #[.int .i64 d] 3))
  have HD0 : Hid (Blk ((w.alloc (.cells #[.int .u8 q, .string x, .slice o1 ks.length c1, .slice o2 ns.length c2] 39)).alloc (.cells #[.int .i64 d] 3)) (w.heap.size + 1) 3 #[.int .i64 d]) := by
    have := Blk.new (w.alloc (.cells #[.int .u8 q, .string x, .slice o1 ks.length c1, .slice o2 ns.length c2] 39)) 3 #[.int .i64 d]
    rwa [World.size_alloc] at this
  have HB0 := Lib.hid (((Below.refl w.heap.size w).alloc (Nat.le_refl _) (.cells #[.int .u8 q, .string x, .slice o1 ks.length c1, .slice o2 ns.length c2] 39)).alloc (by simp) (.cells #[.int .i64 d] 3))
  go_enter Try.func32, Try.ntmps32
  go_upto_region 1 with fail
  generalize (w.alloc (.cells #[.int .u8 q, .string x, .slice o1 ks.length c1, .slice o2 ns.length c2] 39)).alloc (.cells #[.int .i64 d] 3) = W0 at *
  have dd := HD0.out.cell 0
  have n1 := HN0.out.cell 1
  by_cases h32 : d ≤ 32
  · have hq32 : ¬ ((32 : Int) < (d : Int)) := by omega
    rw [decide_eq_true h32, Bool.true_and] at HV
    go_wp2_with fail
    refine (HP.out _).mono ?_
    rintro e w2 ⟨rfl, b2⟩
    have HN2 := Lib.hid (HN0.out.below b2 HN0.out.lt)
    have HD2 := Lib.hid (HD0.out.below b2 HD0.out.lt)
    have HB2 := Lib.hid (HB0.out.trans (b2.mono HB0.out.size))
    have HWb := HN2.out.lt
    have HDb := HD2.out.lt
    have HF2 := Lib.hid (HF.out h32)
    clear dd n1 b2 HN0 HD0 HB0 hq32 HF h32
    have n0 := HN2.out.cell 0
    have n1 := HN2.out.cell 1
    have n2 := HN2.out.cell 2
    have n3 := HN2.out.cell 3
    cases hg : good t
    · rw [hg] at HV
      clear HP HA
      go_wp2_with fail
      go_ret
      exact ⟨by rw [HV.out]; rfl, HB2.out⟩
    · rw [hg, Bool.true_and] at HV
      clear HP
      have HT2 := Lib.hid (txtR_below HT.out HB2.out)
      have HCN := Lib.hid (fun wr (hb : Below w2.heap.size w2 wr) => hasN_any ns cs ok (.slice o2 ns.length c2) d (w.heap.size + 1) wr (RowW.mono (ok' := ok) (fun g hg hl => ⟨hg, Nat.lt_of_lt_of_le hl (HB2.out.trans (hb.mono HB2.out.size)).size, (HB2.out.trans (hb.mono HB2.out.size)).block g hl⟩) HRW.out) (KidsW.mono (ok' := ok) (fun g hg hl => ⟨hg, Nat.lt_of_lt_of_le hl (HB2.out.trans (hb.mono HB2.out.size)).size, (HB2.out.trans (hb.mono HB2.out.size)).block g hl⟩) ns cs HKW.out) (by omega) hd ((HD2.out.below hb HDb).cell 0) (Nat.lt_of_lt_of_le HDb hb.size) HF2.out)
      clear HT HRW HKW HF2 HD2
      by_cases q34 : q = 34
      · subst q34
        have HV2 : Hid (fitsN (.mk 34 t ks ns) d = decide (ks.length + ns.length = 0)) := by
          show _ = _
          rw [HV.out, show okK 34 t ks ns = decide (ks.length + ns.length = 0) from if_pos rfl]
          by_cases h : ks.length + ns.length = 0
          · have h5 : ns = [] := List.length_eq_zero_iff.1 (by omega)
            rw [decide_eq_true h, h5]; rfl
          · rw [decide_eq_false h]; rfl
        obtain ⟨r, hr⟩ : ∃ r, decide (ks.length + ns.length = 0) = r := ⟨_, rfl⟩
        rw [hr] at e1 HV2
        clear HV HA HCN HT2 hg hr
        go_wp2_with fail
        go_ret
        exact ⟨by rw [HV2.out]; rfl, HB2.out⟩
      have c34 : ((q : Int) == 34) = false := by simp; omega
      by_cases q48 : q = 48 ∨ q = 97
      · have HV2 : Hid (fitsN (.mk q t ks ns) d = (decide (ks.length + ns.length = 0) && aloneB t q)) := by
          show _ = _
          rw [HV.out, show okK q t ks ns = (decide (ks.length + ns.length = 0) && aloneB t q) from (if_neg q34).trans (if_pos q48)]
          by_cases h : ks.length + ns.length = 0
          · have h5 : ns = [] := List.length_eq_zero_iff.1 (by omega)
            rw [decide_eq_true h, h5]; simp [fitsL]
          · rw [decide_eq_false h]; rfl
        obtain ⟨b1, hb1⟩ : ∃ b1, decide (ks.length + ns.length = 0) = b1 := ⟨_, rfl⟩
        rw [hb1] at e1 HV2
        generalize aloneB t q = r at *
        have HQ := Lib.hid q34
        clear HV HCN HT2 hg hb1 q34
        rcases q48 with rfl | rfl
        all_goals
          cases b1
          · go_wp2_with fail
            go_ret
            exact ⟨by rw [HV2.out]; rfl, HB2.out⟩
          · go_wp2_with fail
            refine (HA.out _).mono ?_
            rintro e w3 ⟨rfl, b3⟩
            go_wp2_with fail
            go_ret
            exact ⟨by rw [HV2.out]; rfl, HB2.out.trans (b3.mono HB2.out.size)⟩
      have c48 : ((q : Int) == 48) = false := by simp; omega
      have c97 : ((q : Int) == 97) = false := by simp; omega
      by_cases q91 : q = 91
      · subst q91
        have HV2 : Hid (fitsN (.mk 91 t ks ns) d = (decide (ks.length = 0) && et && fitsL ns (d + 1))) := by
          show _ = _
          rw [HV.out, show okK 91 t ks ns = (decide (ks.length = 0) && decide (t = [])) from rfl, HET.out]
        clear HV HA HT2 hg q34 q48 c34 c48 c97 e1
        by_cases hk0 : ks.length = 0
        · rw [decide_eq_true hk0, Bool.true_and] at HV2
          have hk1 : ¬ ((0 : Int) < (ks.length : Int)) := by omega
          clear hk0
          cases et
          · go_wp2_with fail
            go_ret
            exact ⟨by rw [HV2.out]; rfl, HB2.out⟩
          · rw [Bool.true_and] at HV2
            have HC := Lib.hid (HCN.out w2 (Below.refl _ _))
            obtain ⟨r, hr⟩ : ∃ r, fitsL ns (d + 1) = r := ⟨_, rfl⟩
            rw [hr] at HC HV2
            clear HCN hr
            go_wp2_with fail
            refine HC.out.mono ?_
            rintro e w5 ⟨rfl, b5⟩
            go_wp2_with fail
            go_ret
            exact ⟨by rw [HV2.out]; simp, (HB2.out).trans (b5.mono (HB2.out).size)⟩
        · rw [decide_eq_false hk0] at HV2
          have hk1 : (0 : Int) < (ks.length : Int) := by omega
          clear hk0
          go_wp2_with fail
          go_ret
          exact ⟨by rw [HV2.out]; rfl, HB2.out⟩
      have c91 : ((q : Int) == 91) = false := by simp; omega
      by_cases q123 : q = 123
      · subst q123
        have HV2 : Hid (fitsN (.mk 123 t ks ns) d = (decide (ks.length = ns.length) && (ks.all fun k => good k) && et && fitsL ns (d + 1))) := by
          show _ = _
          rw [HV.out, show okK 123 t ks ns = (decide (ks.length = ns.length) && (ks.all fun k => good k) && decide (t = [])) from rfl, HET.out]
        clear HV HA hg q34 q48 q91 c34 c48 c97 c91 e1
        by_cases hkn : ks.length = ns.length
        · rw [decide_eq_true hkn, Bool.true_and] at HV2
          have hk1 : ((ks.length : Int) != (ns.length : Int)) = false := by rw [hkn]; simp
          have HHS := Lib.hid (hasS_any ks (.slice o1 ks.length c1) w2 HT2.out (by omega) (fun u hu => by have := HS2.out u hu; omega))
          have hall : (ks.any fun k => !good k) = !(ks.all fun k => good k) := by rw [List.not_all_eq_any_not]
          rw [hall] at HHS
          generalize (ks.all fun k => good k) = ag at *
          clear hall hkn HT2
          cases ag
          · go_wp2_with fail
            refine HHS.out.mono ?_
            rintro e w3 ⟨rfl, b3⟩
            go_wp2_with fail
            go_ret
            exact ⟨by rw [HV2.out]; rfl, HB2.out.trans (b3.mono HB2.out.size)⟩
          · rw [Bool.true_and] at HV2
            go_wp2_with fail
            refine HHS.out.mono ?_
            rintro e w3 ⟨rfl, b3⟩
            have HN3 := Lib.hid (HN2.out.below b3 HWb)
            clear n0 n1 n2 n3
            have n1 := HN3.out.cell 1
            have n3 := HN3.out.cell 3
            cases et
            · go_wp2_with fail
              go_ret
              exact ⟨by rw [HV2.out]; rfl, HB2.out.trans (b3.mono HB2.out.size)⟩
            · rw [Bool.true_and] at HV2
              have HC := Lib.hid (HCN.out w3 b3)
              obtain ⟨r, hr⟩ : ∃ r, fitsL ns (d + 1) = r := ⟨_, rfl⟩
              rw [hr] at HC HV2
              clear HCN hr
              go_wp2_with fail
              refine HC.out.mono ?_
              rintro e w5 ⟨rfl, b5⟩
              go_wp2_with fail
              go_ret
              exact ⟨by rw [HV2.out]; simp, (HB2.out.trans (b3.mono HB2.out.size)).trans (b5.mono (HB2.out.trans (b3.mono HB2.out.size)).size)⟩
        · rw [decide_eq_false hkn] at HV2
          have hk1 : ((ks.length : Int) != (ns.length : Int)) = true := by simp only [bne_iff_ne]; omega
          clear hkn
          go_wp2_with fail
          go_ret
          exact ⟨by rw [HV2.out]; rfl, HB2.out⟩
      have c123 : ((q : Int) == 123) = false := by simp; omega
      have HV2 : Hid (fitsN (.mk q t ks ns) d = false) := by
        show _ = _
        rw [HV.out, show okK q t ks ns = false by unfold okK; rw [if_neg q34, if_neg q48, if_neg q91, if_neg q123]]; rfl
      clear HV HA HCN HT2 hg q34 q48 q91 q123
      go_wp2_with fail
      go_ret
      exact ⟨by rw [HV2.out]; rfl, HB2.out⟩
  · have hq32 : (32 : Int) < (d : Int) := by omega
    have HV2 : Hid (fitsN (.mk q t ks ns) d = false) := by show _ = _; rw [HV.out, decide_eq_false h32]; rfl
    clear HV HP HA h32
    go_wp2_with fail
    go_ret
    exact ⟨by rw [HV2.out]; rfl, HB0.out⟩
mutual
theorem fits_any : ∀ (n : Node) (d : Nat), d ≤ 33 → SmallN n → FitC n d
  | .mk q t ks ns, d, hd, hs => fun ok a b c e w hn => fits_one q t ks ns d ok a b c e w hn (by omega) hs (fun h j n hj => fits_all ns (d + 1) (by omega) (by unfold SmallN at hs; exact hs.2.2.2.2) j n hj)
theorem fits_all : ∀ (ns : List Node) (d : Nat), d ≤ 33 → SmallL ns → ∀ (j : Nat) (n : Node), ns[j]? = some n → FitC n d
  | [], d, hd, hs, j, n, h => by simp at h
  | m :: ns, d, hd, hs, 0, n, h => by
    have h1 : m = n := by simpa using h
    rw [← h1]
    unfold SmallL at hs
    exact fits_any m d hd hs.1
  | m :: ns, d, hd, hs, j + 1, n, h => by
    unfold SmallL at hs
    exact fits_all ns d hd hs.2 j n (by simpa using h)
end
end Go.Proofs.Ytjnmcadfaombjaa

/- Plain: tokens of a text behind another; a written string is one token. -/
namespace Go.Proofs.Ytjnmcadfaombjaa
set_option linter.unusedVariables false
set_option linter.unusedSimpArgs false
def shiftT (d : Nat) (t : Tok) : Tok := ⟨t.kind, t.text, d + t.frm, d + t.to⟩
theorem digE_drop (l : List UInt8) (d k : Nat) : digE l (d + k) = d + digE (l.drop d) k := by
  unfold digE; rw [List.drop_drop]; omega
theorem numStart_drop (l : List UInt8) (d k : Nat) : numStart l (d + k) = d + numStart (l.drop d) k := by
  unfold numStart; rw [bt_drop]; split <;> omega
theorem numInt_drop (l : List UInt8) (d k : Nat) : numInt l (d + k) = d + numInt (l.drop d) k := by
  unfold numInt; rw [bt_drop, digE_drop]; split <;> omega
theorem numFrac_drop (l : List UInt8) (d e : Nat) : numFrac l (d + e) = d + numFrac (l.drop d) e := by
  unfold numFrac
  rw [bt_drop, Nat.add_assoc, digE_drop]
  by_cases h : bt l (d + e) = 46 ∧ e + 1 < digE (l.drop d) (e + 1)
  · rw [if_pos h, if_pos ⟨h.1, by omega⟩]
  · rw [if_neg h, if_neg (fun x => h ⟨x.1, by have := x.2; omega⟩)]
theorem expStart_drop (l : List UInt8) (d e : Nat) : expStart l (d + e) = d + expStart (l.drop d) e := by
  unfold expStart; rw [bt_drop]; split <;> omega
theorem numExp_drop (l : List UInt8) (d e : Nat) : numExp l (d + e) = d + numExp (l.drop d) e := by
  unfold numExp
  rw [bt_drop, Nat.add_assoc, expStart_drop, digE_drop]
  by_cases h : bt l (d + e) = 101 ∨ bt l (d + e) = 69
  · rw [if_pos h, if_pos h]
    by_cases h2 : expStart (l.drop d) (e + 1) < digE (l.drop d) (expStart (l.drop d) (e + 1))
    · rw [if_pos h2, if_pos (by omega)]
    · rw [if_neg h2, if_neg (by omega)]
  · rw [if_neg h, if_neg h]
theorem numE_drop (l : List UInt8) (d k : Nat) : numE l (d + k) = (numE (l.drop d) k).map (d + ·) := by
  unfold numE
  rw [numStart_drop, digE_drop, numInt_drop, numFrac_drop, numExp_drop]
  by_cases h : digE (l.drop d) (numStart (l.drop d) k) = numStart (l.drop d) k
  · rw [if_pos h, if_pos (by omega)]; rfl
  · rw [if_neg h, if_neg (by omega)]; rfl
theorem atL_drop (l p : List UInt8) (d k : Nat) (h : d ≤ l.length) : atL l p (d + k) = atL (l.drop d) p k := by
  unfold atL
  rw [List.drop_drop, List.length_drop]
  congr 1
  exact decide_eq_decide.2 (by omega)
theorem oneT_drop (l : List UInt8) (d k : Nat) (h : d ≤ l.length) : oneT l (d + k) = (oneT (l.drop d) k).map (shiftT d) := by
  unfold oneT
  rw [bt_drop, atL_drop _ _ _ _ h, atL_drop _ _ _ _ h, atL_drop _ _ _ _ h, numE_drop, List.drop_drop, List.drop_drop, Nat.add_assoc d k 1]
  split
  · rfl
  split
  · cases strJ (l.drop (d + (k + 1))) with
    | none => rfl
    | some p => obtain ⟨t, n⟩ := p; simp only [Option.map_some, shiftT]; rw [Nat.add_assoc d]
  split
  · rfl
  split
  · rfl
  split
  · rfl
  cases numE (l.drop d) k with
  | none => rfl
  | some e => simp only [Option.map_some, shiftT]; rw [Nat.add_sub_add_left]
theorem toksAt_drop (l : List UInt8) (d : Nat) (h : d ≤ l.length) : ∀ (m k : Nat), l.length ≤ d + k + m → toksAt l (d + k) = (toksAt (l.drop d) k).map (List.map (shiftT d))
  | 0, k, hm => by rw [toksAt_end (by omega), toksAt_end (by rw [List.length_drop]; omega)]; rfl
  | m + 1, k, hm => by
    by_cases h1 : l.length ≤ d + k
    · rw [toksAt_end h1, toksAt_end (by rw [List.length_drop]; omega)]; rfl
    have h2 : k < (l.drop d).length := by rw [List.length_drop]; omega
    rw [toksAt_step (by omega), toksAt_step h2, bt_drop, oneT_drop l d k h]
    split
    · rw [Nat.add_assoc]; exact toksAt_drop l d h m (k + 1) (by omega)
    · cases ho : oneT (l.drop d) k with
      | none => rfl
      | some t =>
        have hb := oneT_bd h2 ho
        rw [List.length_drop] at hb
        simp only [Option.map_some]
        have := toksAt_drop l d h m t.to (by omega)
        rw [show (shiftT d t).to = d + t.to from rfl, this]
        cases toksAt (l.drop d) t.to with
        | none => rfl
        | some ts => rfl
theorem toksAt_zero (l : List UInt8) (d : Nat) (h : d ≤ l.length) : toksAt l d = (toks (l.drop d)).map (List.map (shiftT d)) := toksAt_drop l d h l.length 0 (by omega)
theorem toks_step {l : List UInt8} (h : l ≠ []) : toks l = if blankK (bt l 0) then toks (l.drop 1) |>.map (List.map (shiftT 1)) else
    match oneT l 0 with
    | none => none
    | some t => ((toks (l.drop t.to)).map (List.map (shiftT t.to))).map (t :: ·) := by
  have hl := List.length_pos_iff.2 h
  unfold toks
  rw [toksAt_step hl]
  split
  · exact toksAt_zero l 1 hl
  · cases ho : oneT l 0 with
    | none => rfl
    | some t =>
      have hb := oneT_bd hl ho
      dsimp only
      rw [toksAt_zero l t.to hb.2.2.1]; rfl
/-- The first byte of what a rune is written as ends no string. -/
theorem wrJ_head {n : Nat} (hr : isRune (n : Int)) (t : List UInt8) : bt (wrJ n ++ t) 0 ≠ 34 := by
  by_cases h1 : letN n = 0
  · by_cases h2 : longN n
    · rw [wrJ_long h1 h2]; exact (by decide : (92 : Nat) ≠ 34)
    · rw [wrJ_self h1 h2]
      have hs := letN_special h1
      have hh := enc_head hr t
      omega
  · rw [wrJ_short h1]; exact (by decide : (92 : Nat) ≠ 34)
theorem str_wr : ∀ (rs : List Nat) (t : List UInt8), (∀ r ∈ rs, isRune (r : Int)) → strJ (rs.flatMap wrJ ++ 34 :: t) = some (joined rs, (rs.flatMap wrJ).length + 1)
  | [], t, _ => by
    rw [strJ_step (by simp), if_pos (by rfl)]; rfl
  | r :: rs, t, h => by
    have hr := h r (by simp)
    have hl := wrJ_length r
    rw [List.flatMap_cons, List.append_assoc]
    have h0 : wrJ r ++ (rs.flatMap wrJ ++ 34 :: t) ≠ [] := by
      intro e
      have := congrArg List.length e
      rw [List.length_append, List.length_nil] at this; omega
    rw [strJ_step h0, if_neg (wrJ_head hr _), oneJ_wr hr]
    dsimp only
    rw [List.drop_left, str_wr rs t (fun x hx => h x (by simp [hx]))]
    simp only [Option.map_some, List.length_append, Option.some.injEq, Prod.mk.injEq]
    exact ⟨rfl, by omega⟩
/-- A written string is one token. -/
theorem str_write (u t : List UInt8) : strJ (writeJ u ++ 34 :: t) = some (joined (runes u), (writeJ u).length + 1) := str_wr _ t (runes_rune _ u (Nat.le_refl _))
theorem toks_str {u : List UInt8} (hu : joined (runes u) = u) (t : List UInt8) : toks (34 :: (writeJ u ++ 34 :: t)) = ((toks t).map (List.map (shiftT ((writeJ u).length + 2)))).map (⟨34, u, 0, (writeJ u).length + 2⟩ :: ·) := by
  rw [toks_step (by simp), if_neg (show ¬ blankK (bt (34 :: (writeJ u ++ 34 :: t)) 0) from (by decide : ¬ blankK 34))]
  have h1 : oneT (34 :: (writeJ u ++ 34 :: t)) 0 = some ⟨34, u, 0, (writeJ u).length + 2⟩ := by
    unfold oneT
    rw [if_neg (show ¬ markK (bt (34 :: (writeJ u ++ 34 :: t)) 0) from (by decide : ¬ markK 34)), if_pos (show bt (34 :: (writeJ u ++ 34 :: t)) 0 = 34 from rfl)]
    rw [show (34 :: (writeJ u ++ 34 :: t)).drop (0 + 1) = writeJ u ++ 34 :: t from rfl, str_write, hu]
    dsimp only
    rw [show 0 + 1 + ((writeJ u).length + 1) = (writeJ u).length + 2 by omega]
  rw [h1]
  dsimp only
  rw [show (34 :: (writeJ u ++ 34 :: t)).drop ((writeJ u).length + 2) = t by
    rw [show (writeJ u).length + 2 = ((writeJ u).length + 1) + 1 by omega, List.drop_succ_cons, ← List.drop_drop, List.drop_left]; rfl]
/-- A mark is one token. -/
theorem toks_mark {c : UInt8} (hc : markK c.toNat) (t : List UInt8) : toks (c :: t) = ((toks t).map (List.map (shiftT 1))).map (⟨c.toNat, [], 0, 1⟩ :: ·) := by
  have hb : ¬ blankK c.toNat := by unfold markK at hc; unfold blankK; omega
  rw [toks_step (by simp)]
  rw [bt_c0, if_neg hb]
  have h1 : oneT (c :: t) 0 = some ⟨c.toNat, [], 0, 1⟩ := by
    unfold oneT; rw [bt_c0, if_pos hc]
  rw [h1]; rfl
/-- What the value of tokens depends on: their kinds and texts alone. -/
theorem shift_get (d : Nat) (ts : List Tok) (k : Nat) : (ts.map (shiftT d))[k]? = (ts[k]?).map (shiftT d) := by rw [List.getElem?_map]
end Go.Proofs.Ytjnmcadfaombjaa

/- Plain: a text's tokens ahead of a bracket (chapters 10, 37). -/
namespace Go.Proofs.Ytjnmcadfaombjaa
set_option linter.unusedVariables false
set_option linter.unusedSimpArgs false
theorem bt_app {l x : List UInt8} {i : Nat} (h : i < l.length) : bt (l ++ x) i = bt l i := by
  unfold bt
  rw [List.getD_eq_getElem?_getD, List.getD_eq_getElem?_getD, List.getElem?_append_left h]
theorem byteAt_app {l x : List UInt8} {k v : Nat} (h : byteAt l k = some v) : byteAt (l ++ x) k = some v := by
  have hl := byteAt_len h
  unfold byteAt at h ⊢
  rw [bt_app (by omega), bt_app (by omega)]
  split at h
  · rename_i h1
    rw [if_pos ⟨by rw [List.length_append]; omega, h1.2⟩]; exact h
  · cases h
theorem unitAt_app {l x : List UInt8} {k v : Nat} (h : unitAt l k = some v) : unitAt (l ++ x) k = some v := by
  have hl := unitAt_len h
  unfold unitAt at h ⊢
  rw [bt_app (by omega), bt_app (by omega)]
  split at h
  · rename_i h1
    rw [if_pos h1]
    split at h
    · rename_i a b ha hb
      rw [byteAt_app ha, byteAt_app hb]; exact h
    · cases h
  · cases h
theorem escJ_app {l x : List UInt8} {p : Nat × Nat} (h : escJ l = some p) : escJ (l ++ x) = some p := by
  unfold escJ at h ⊢
  split at h
  · rename_i h1
    have h2 : 1 < l.length := bt_pos_lt (fun hz => by rw [hz] at h1; exact h1 (by decide))
    rw [bt_app h2, if_pos h1]; exact h
  · rename_i h1
    split at h
    · cases h
    · rename_i a ha
      have := unitAt_len ha
      rw [bt_app (by omega), if_neg h1, unitAt_app ha]
      dsimp only
      split at h
      · cases h
      · rename_i h3
        rw [if_neg h3]
        split at h
        · rename_i h4
          rw [if_pos h4]
          split at h
          · cases h
          · rename_i b hb
            rw [unitAt_app hb]; exact h
        · rename_i h4
          rw [if_neg h4]; exact h
theorem oneJ_app {l x : List UInt8} {p : Nat × Nat} (h : oneJ l = some p) : oneJ (l ++ x) = some p := by
  unfold oneJ at h
  split at h
  · cases h
  rename_i hne
  have hl : 0 < l.length := List.length_pos_iff.2 hne
  unfold oneJ
  rw [if_neg (by simp [hne]), bt_app hl]
  split at h
  · rename_i h1
    rw [if_pos h1]; exact escJ_app h
  rename_i h1
  rw [if_neg h1]
  split at h
  · cases h
  rename_i h2
  have hn : next (l ++ x) = next l := by
    rcases next_cases hne with h3 | h3
    · exact absurd (.inr (.inr ⟨by rw [h3], by rw [h3]⟩)) h2
    · have h4 : l = enc ((next l).1 : Int) ++ l.drop (next l).2 := by rw [h3.1, List.take_append_drop]
      have h5 := next_enc ((next l).1 : Int) (l.drop (next l).2 ++ x)
      rw [← List.append_assoc, ← h4] at h5
      have h6 : (enc ((next l).1 : Int)).length = (next l).2 := by
        rw [h3.1, List.length_take]; have := (next_bound l).2.2.1; omega
      rw [h5, h3.2, h6]
  rw [hn, if_neg h2]; exact h
theorem strJ_app {x : List UInt8} : ∀ (m : Nat) (l : List UInt8) (t : List UInt8) (n : Nat), l.length ≤ m → strJ l = some (t, n) → strJ (l ++ x) = some (t, n)
  | m, [], t, n, _, h => by rw [strJ_nil] at h; cases h
  | 0, _ :: _, _, _, hl, _ => by simp at hl
  | m + 1, a :: r, t, n, hl, h => by
    have h0 : a :: r ≠ [] := by simp
    rw [strJ_step h0] at h
    rw [strJ_step (by simp), bt_app (by simp)]
    split at h
    · rename_i h1
      rw [if_pos h1]; exact h
    · rename_i h1
      rw [if_neg h1]
      split at h
      · cases h
      · rename_i q k ho
        have hb := oneJ_bound ho
        rw [oneJ_app ho]
        dsimp only
        rw [List.drop_append_of_le_length hb.2.2.2]
        cases hs : strJ ((a :: r).drop k) with
        | none => rw [hs] at h; cases h
        | some p =>
          obtain ⟨u, j⟩ := p
          rw [hs] at h
          rw [strJ_app m _ u j (by rw [List.length_drop]; simp only [List.length_cons] at *; omega) hs]
          exact h
theorem atL_app {l p x : List UInt8} {k : Nat} (h : atL l p k = true) (hp : p ≠ []) : atL (l ++ x) p k = true := by
  have hl : k + p.length ≤ l.length := (atL_len h).resolve_right hp
  unfold atL at h ⊢
  simp only [Bool.and_eq_true, decide_eq_true_eq] at h ⊢
  refine ⟨by rw [List.length_append]; omega, ?_⟩
  rw [List.drop_append_of_le_length h.1, List.take_append_of_le_length (by rw [List.length_drop]; omega)]
  exact h.2
theorem atL_hd {l p : List UInt8} {k : Nat} {c : UInt8} (h : atL l (c :: p) k = true) : bt l k = c.toNat := by
  unfold atL at h
  simp only [Bool.and_eq_true, decide_eq_true_eq] at h
  have h2 := h.2
  have h3 := bt_drop l k 0
  cases hd : l.drop k with
  | nil => rw [hd] at h2; simp at h2
  | cons b r =>
    rw [hd] at h2 h3
    simp at h2
    rw [bt_c0] at h3
    rw [Nat.add_zero] at h3
    rw [← h3, h2.1]
/-- What may stand behind a whole number. -/
def sepK (c : Nat) : Prop := markK c ∨ blankK c
instance (c : Nat) : Decidable (sepK c) := by unfold sepK; infer_instance
section
variable {l r : List UInt8} {c : UInt8} (hc : sepK c.toNat)
include hc
theorem bt_mark {i : Nat} (hi : i ≤ l.length) (P : Nat → Prop) (hP : ∀ m, sepK m → ¬ P m) (h0 : ¬ P 0) : P (bt (l ++ c :: r) i) ↔ P (bt l i) := by
  rcases Nat.lt_or_ge i l.length with h | h
  · rw [bt_app h]
  · obtain rfl : i = l.length := by omega
    have h1 : bt (l ++ c :: r) l.length = c.toNat := by
      have := bt_drop (l ++ c :: r) l.length 0
      rw [List.drop_left, bt_c0, Nat.add_zero] at this
      exact this.symm
    have h2 : bt l l.length = 0 := by simp [bt, List.getD_eq_getElem?_getD]
    rw [h1, h2]
    exact ⟨fun h => absurd h (hP _ hc), fun h => absurd h h0⟩
theorem digE_mark : ∀ (m k : Nat), l.length ≤ k + m → k ≤ l.length → digE (l ++ c :: r) k = digE l k
  | m, k, hm, hk => by
    have hb := bt_mark (l := l) (r := r) hc hk isDg (fun m hm => by unfold sepK markK blankK at hm; unfold isDg; omega) (by decide)
    by_cases hd : isDg (bt l k)
    · have hkl : k < l.length := by
        rcases Nat.lt_or_ge k l.length with h | h
        · exact h
        · rw [show bt l k = 0 by simp [bt, List.getD_eq_getElem?_getD, List.getElem?_eq_none h]] at hd
          exact absurd hd (by decide)
      rw [digE_yes hkl hd, digE_yes (by simp; omega) (hb.2 hd)]
      cases m with
      | zero => omega
      | succ m => exact digE_mark m (k + 1) (by omega) (by omega)
    · rw [digE_no hd, digE_no (fun h => hd (hb.1 h))]
theorem numE_mark {k : Nat} (hk : k < l.length) : numE (l ++ c :: r) k = numE l k := by
  have hD := fun i (hi : i ≤ l.length) => digE_mark (l := l) (r := r) hc l.length i (by omega) hi
  have hB := fun (i a : Nat) (hi : i ≤ l.length) (h1 : a ≠ 0) (h2 : ¬ sepK a) => bt_mark (l := l) (r := r) hc hi (fun x => x = a) (fun m hm h => h2 (h ▸ hm)) (fun h => h1 h.symm)
  have h0 : numStart (l ++ c :: r) k = numStart l k := by
    unfold numStart
    simp only [hB k 45 (by omega) (by decide) (by decide)]
  have h0b := numStart_bd l k hk
  unfold numE
  rw [h0, hD _ h0b.2]
  split
  · rfl
  rename_i hd
  have hp := digE_pos hd
  have h1 : numInt (l ++ c :: r) (numStart l k) = numInt l (numStart l k) := by
    unfold numInt
    simp only [hB (numStart l k) 48 h0b.2 (by decide) (by decide), hD _ h0b.2]
  have h1b : numInt l (numStart l k) ≤ l.length := by
    unfold numInt
    split
    · omega
    · exact digE_le l _ h0b.2
  have h2 : numFrac (l ++ c :: r) (numInt l (numStart l k)) = numFrac l (numInt l (numStart l k)) := by
    unfold numFrac
    by_cases h46 : bt l (numInt l (numStart l k)) = 46
    · have := bt_pos_lt (l := l) (k := numInt l (numStart l k)) (by omega)
      simp only [hB _ 46 h1b (by decide) (by decide), hD (numInt l (numStart l k) + 1) (by omega)]
    · rw [if_neg (fun h => h46 ((hB _ 46 h1b (by decide) (by decide)).1 h.1)), if_neg (fun h => h46 h.1)]
  have h2b := (numFrac_bd l _ h1b).2
  have h3 : numExp (l ++ c :: r) (numFrac l (numInt l (numStart l k))) = numExp l (numFrac l (numInt l (numStart l k))) := by
    unfold numExp
    by_cases hE : bt l (numFrac l (numInt l (numStart l k))) = 101 ∨ bt l (numFrac l (numInt l (numStart l k))) = 69
    · have hlt := bt_pos_lt (l := l) (k := numFrac l (numInt l (numStart l k))) (by omega)
      have e1 : expStart (l ++ c :: r) (numFrac l (numInt l (numStart l k)) + 1) = expStart l (numFrac l (numInt l (numStart l k)) + 1) := by
        unfold expStart
        simp only [hB _ 43 hlt (by decide) (by decide), hB _ 45 hlt (by decide) (by decide)]
      have e2 := (expStart_bd l (numFrac l (numInt l (numStart l k)) + 1) hlt).2
      rw [e1, hD _ e2, if_pos hE, if_pos (by rw [hB _ 101 h2b (by decide) (by decide), hB _ 69 h2b (by decide) (by decide)]; exact hE)]
    · rw [if_neg hE, if_neg (by rw [hB _ 101 h2b (by decide) (by decide), hB _ 69 h2b (by decide) (by decide)]; exact hE)]
  rw [h1, h2, h3]
theorem oneT_app {k : Nat} {t : Tok} (hk : k < l.length) (h : oneT l k = some t) : oneT (l ++ c :: r) k = some t := by
  have hbd := oneT_bd hk h
  unfold oneT at h ⊢
  rw [bt_app hk, List.drop_append_of_le_length hk]
  by_cases q1 : markK (bt l k)
  · rw [if_pos q1] at h ⊢; exact h
  rw [if_neg q1] at h ⊢
  by_cases q2 : bt l k = 34
  · rw [if_pos q2] at h ⊢
    cases hs : strJ (l.drop (k + 1)) with
    | none => rw [hs] at h; cases h
    | some p =>
      obtain ⟨u, n⟩ := p
      rw [hs] at h
      rw [strJ_app _ _ u n (Nat.le_refl _) hs]; exact h
  rw [if_neg q2] at h ⊢
  by_cases q3 : atL l tTrue k = true
  · rw [if_pos q3] at h; rw [if_pos (atL_app q3 (by decide))]; exact h
  rw [if_neg q3] at h
  by_cases q4 : atL l tFalse k = true
  · rw [if_pos q4] at h
    have e := atL_hd q4
    rw [if_neg (fun x => by have := atL_hd x; rw [bt_app hk, e] at this; revert this; decide), if_pos (atL_app q4 (by decide))]; exact h
  rw [if_neg q4] at h
  by_cases q5 : atL l tNull k = true
  · rw [if_pos q5] at h
    have e := atL_hd q5
    rw [if_neg (fun x => by have := atL_hd x; rw [bt_app hk, e] at this; revert this; decide), if_neg (fun x => by have := atL_hd x; rw [bt_app hk, e] at this; revert this; decide), if_pos (atL_app q5 (by decide))]; exact h
  rw [if_neg q5] at h
  cases hn : numE l k with
  | none => rw [hn] at h; cases h
  | some e =>
    rw [hn] at h
    have hdg : bt l k = 45 ∨ isDg (bt l k) := by
      unfold numE at hn
      split at hn
      · cases hn
      · rename_i hd
        have hp := digE_pos hd
        unfold numStart at hp
        by_cases h45 : bt l k = 45
        · exact .inl h45
        · rw [if_neg h45] at hp; exact .inr hp.2
    have hno : ∀ (a : UInt8) (p : List UInt8), 58 < a.toNat → ¬ atL (l ++ c :: r) (a :: p) k = true := fun a p ha x => by
      have := atL_hd x
      rw [bt_app hk] at this
      unfold isDg at hdg; omega
    rw [if_neg (show ¬ atL (l ++ c :: r) tTrue k = true from hno 116 _ (by decide)), if_neg (show ¬ atL (l ++ c :: r) tFalse k = true from hno 102 _ (by decide)), if_neg (show ¬ atL (l ++ c :: r) tNull k = true from hno 110 _ (by decide)), numE_mark hc hk, hn]
    simp only [Option.some.injEq] at h ⊢
    have hle := (numE_bd hk hn).2
    rw [List.drop_append_of_le_length (by omega), List.take_append_of_le_length (by rw [List.length_drop]; omega)]
    exact h
theorem toksAt_app : ∀ (m k : Nat) (ts : List Tok), l.length ≤ k + m → k ≤ l.length → toksAt l k = some ts → toksAt (l ++ c :: r) k = (toksAt (l ++ c :: r) l.length).map (ts ++ ·)
  | m, k, ts, hm, hk, h => by
    rcases Nat.lt_or_ge k l.length with h1 | h1
    · cases m with
      | zero => omega
      | succ m =>
        rw [toksAt_step h1] at h
        rw [toksAt_step (by simp; omega), bt_app h1]
        by_cases hb : blankK (bt l k)
        · rw [if_pos hb] at h ⊢
          exact toksAt_app m (k + 1) ts (by omega) (by omega) h
        · rw [if_neg hb] at h ⊢
          cases ho : oneT l k with
          | none => rw [ho] at h; cases h
          | some t =>
            rw [ho] at h
            have hbd := oneT_bd h1 ho
            rw [oneT_app hc h1 ho]
            dsimp only at h ⊢
            cases hr : toksAt l t.to with
            | none => rw [hr] at h; cases h
            | some us =>
              rw [hr] at h
              simp only [Option.map_some, Option.some.injEq] at h
              subst h
              rw [toksAt_app m t.to us (by omega) hbd.2.2.1 hr]
              cases toksAt (l ++ c :: r) l.length <;> simp
    · obtain rfl : k = l.length := by omega
      rw [toksAt_end (Nat.le_refl _)] at h
      cases h
      cases toksAt (l ++ c :: r) l.length <;> simp
/-- The tokens of a text ahead of a bracket. -/
theorem toks_app {ts : List Tok} (h : toks l = some ts) : toks (l ++ c :: r) = (toks (c :: r)).map fun us => ts ++ us.map (shiftT l.length) := by
  unfold toks at h
  have h1 := toksAt_app (l := l) (r := r) hc l.length 0 ts (by omega) (by omega) h
  show toksAt (l ++ c :: r) 0 = _
  rw [h1, toksAt_zero _ _ (by simp), List.drop_left]
  cases toks (c :: r) <;> simp
end
end Go.Proofs.Ytjnmcadfaombjaa

/- Plain: a number's text is one token, by itself (chapter 10). -/
namespace Go.Proofs.Ytjnmcadfaombjaa
set_option linter.unusedVariables false
set_option linter.unusedSimpArgs false
theorem digN_take : ∀ (l : List UInt8) (m : Nat), digN (l.take m) = min (digN l) m
  | [], m => by simp [digN]
  | c :: t, 0 => by simp [digN]
  | c :: t, m + 1 => by
    rw [List.take_succ_cons, digN_cons, digN_cons]
    split
    · rw [digN_take t m]; omega
    · simp
theorem digE_take {x : List UInt8} {e k : Nat} (h : k ≤ e) : digE (x.take e) k = min (digE x k) e := by
  unfold digE
  rw [List.drop_take, digN_take]
  omega
theorem bt_takeL (x : List UInt8) (e i : Nat) : bt (x.take e) i = if i < e then bt x i else 0 := by
  unfold bt
  rw [List.getD_eq_getElem?_getD, List.getD_eq_getElem?_getD, List.getElem?_take]
  split <;> rfl
theorem digE_dig {x : List UInt8} : ∀ (n k i : Nat), digE x k = k + n → k ≤ i → i < k + n → isDg (bt x i)
  | 0, k, i, h, h1, h2 => by omega
  | n + 1, k, i, h, h1, h2 => by
    have hp := digE_pos (l := x) (k := k) (by omega)
    by_cases hi : i = k
    · subst hi; exact hp.2
    · have h3 := digE_yes hp.1 hp.2
      exact digE_dig n (k + 1) i (by omega) (by omega) (by omega)
theorem digE_all {x : List UInt8} {k i : Nat} (h1 : k ≤ i) (h2 : i < digE x k) : isDg (bt x i) :=
  digE_dig (digE x k - k) k i (by have := digE_ge x k; omega) h1 (by have := digE_ge x k; omega)
/-- A number, cut behind its end, is the number. -/
theorem numE_cut {x : List UInt8} {e : Nat} (h : numE x 0 = some e) : numE (x.take e) 0 = some e ∧ (∀ i, i < e → bt x i < 128) ∧ (bt x 0 = 45 ∨ isDg (bt x 0)) ∧ 0 < e := by
  unfold numE at h ⊢
  by_cases hd : digE x (numStart x 0) = numStart x 0
  · rw [if_pos hd] at h; cases h
  rw [if_neg hd] at h
  simp only [Option.some.injEq] at h
  obtain ⟨s0, hs0⟩ : ∃ s0, numStart x 0 = s0 := ⟨_, rfl⟩
  obtain ⟨i1, hi1⟩ : ∃ i1, numInt x s0 = i1 := ⟨_, rfl⟩
  obtain ⟨i2, hi2⟩ : ∃ i2, numFrac x i1 = i2 := ⟨_, rfl⟩
  rw [hs0] at h hd
  rw [hi1, hi2] at h
  have hp := digE_pos hd
  have hge := digE_ge x s0
  have hs1 : (bt x 0 = 45 ∧ s0 = 1) ∨ (bt x 0 ≠ 45 ∧ s0 = 0) := by
    unfold numStart at hs0
    by_cases h1 : bt x 0 = 45
    · rw [if_pos h1] at hs0; exact .inl ⟨h1, by omega⟩
    · rw [if_neg h1] at hs0; exact .inr ⟨h1, by omega⟩
  have hI : (bt x s0 = 48 ∧ i1 = s0 + 1) ∨ (bt x s0 ≠ 48 ∧ i1 = digE x s0) := by
    unfold numInt at hi1
    by_cases h1 : bt x s0 = 48
    · rw [if_pos h1] at hi1; exact .inl ⟨h1, hi1.symm⟩
    · rw [if_neg h1] at hi1; exact .inr ⟨h1, hi1.symm⟩
  have hI2 : s0 < i1 := by omega
  have hFr : ((bt x i1 = 46 ∧ i1 + 1 < digE x (i1 + 1)) ∧ i2 = digE x (i1 + 1)) ∨ (¬ (bt x i1 = 46 ∧ i1 + 1 < digE x (i1 + 1)) ∧ i2 = i1) := by
    unfold numFrac at hi2
    by_cases h1 : bt x i1 = 46 ∧ i1 + 1 < digE x (i1 + 1)
    · rw [if_pos h1] at hi2; exact .inl ⟨h1, hi2.symm⟩
    · rw [if_neg h1] at hi2; exact .inr ⟨h1, hi2.symm⟩
  have hi12 : i1 ≤ i2 := by omega
  obtain ⟨f, hf⟩ : ∃ f, expStart x (i2 + 1) = f := ⟨_, rfl⟩
  have hf1 : ((bt x (i2 + 1) = 43 ∨ bt x (i2 + 1) = 45) ∧ f = i2 + 2) ∨ (¬ (bt x (i2 + 1) = 43 ∨ bt x (i2 + 1) = 45) ∧ f = i2 + 1) := by
    unfold expStart at hf
    by_cases h1 : bt x (i2 + 1) = 43 ∨ bt x (i2 + 1) = 45
    · rw [if_pos h1] at hf; exact .inl ⟨h1, by omega⟩
    · rw [if_neg h1] at hf; exact .inr ⟨h1, hf.symm⟩
  have hX : ((bt x i2 = 101 ∨ bt x i2 = 69) ∧ f < digE x f ∧ e = digE x f) ∨ (e = i2) := by
    unfold numExp at h
    rw [hf] at h
    by_cases h1 : bt x i2 = 101 ∨ bt x i2 = 69
    · rw [if_pos h1] at h
      by_cases h2 : f < digE x f
      · rw [if_pos h2] at h; exact .inl ⟨h1, h2, h.symm⟩
      · rw [if_neg h2] at h; exact .inr h.symm
    · rw [if_neg h1] at h; exact .inr h.symm
  have hi2e : i2 ≤ e := by rcases hX with ⟨_, h2, h3⟩ | h3 <;> omega
  have hs0e : s0 < e := by omega
  refine ⟨?_, ?_, ?_, by omega⟩
  · have a0 : numStart (x.take e) 0 = s0 := by
      have he0 : 0 < e := by omega
      unfold numStart
      rw [bt_takeL, if_pos he0]
      rcases hs1 with ⟨h1, h2⟩ | ⟨h1, h2⟩
      · rw [if_pos h1]; omega
      · rw [if_neg h1]; omega
    have a1 : digE (x.take e) s0 = min (digE x s0) e := digE_take (by omega)
    have a2 : numInt (x.take e) s0 = i1 := by
      unfold numInt
      rw [bt_takeL, if_pos hs0e, a1]
      rcases hI with ⟨h1, h2⟩ | ⟨h1, h2⟩
      · rw [if_pos h1]; omega
      · rw [if_neg h1]; omega
    have a3 : numFrac (x.take e) i1 = i2 := by
      unfold numFrac
      rw [bt_takeL]
      rcases hFr with ⟨⟨h1, h2⟩, h3⟩ | ⟨h1, h3⟩
      · have hlt : i1 < e := by omega
        have hm : i1 + 1 < min (digE x (i1 + 1)) e := by omega
        rw [if_pos hlt, digE_take (by omega), if_pos ⟨h1, hm⟩]; omega
      · by_cases hlt : i1 < e
        · rw [if_pos hlt, digE_take (by omega), if_neg (fun y => h1 ⟨y.1, by omega⟩)]; exact h3.symm
        · rw [if_neg hlt, if_neg (fun y => by have := y.1; omega)]; exact h3.symm
    have a4 : numExp (x.take e) i2 = e := by
      unfold numExp
      rcases hX with ⟨h1, h2, h3⟩ | h3
      · have hlt : i2 + 1 < e := by omega
        have hfs : expStart (x.take e) (i2 + 1) = f := by
          unfold expStart
          rw [bt_takeL, if_pos hlt]
          rcases hf1 with ⟨h4, h5⟩ | ⟨h4, h5⟩
          · rw [if_pos h4]; omega
          · rw [if_neg h4]; omega
        have he2 : i2 < e := by omega
        have hm : f < min (digE x f) e := by omega
        rw [bt_takeL, if_pos he2, if_pos h1, hfs, digE_take (by omega), if_pos hm]; omega
      · have he2 : ¬ i2 < e := by omega
        rw [bt_takeL, if_neg he2, if_neg (by omega)]; exact h3.symm
    have hne : ¬ min (digE x s0) e = s0 := by omega
    rw [a0, a1, if_neg hne, a2, a3, a4]
  · intro i hi
    have dg : ∀ a b, a ≤ b → b < digE x a → bt x b < 128 := fun a b h1 h2 => by have := digE_all h1 h2; unfold isDg at this; omega
    by_cases c1 : i < s0
    · rcases hs1 with ⟨h1, h2⟩ | ⟨h1, h2⟩
      · have : i = 0 := by omega
        subst this; omega
      · omega
    by_cases c2 : i < i1
    · rcases hI with ⟨h1, h2⟩ | ⟨h1, h2⟩
      · have : i = s0 := by omega
        subst this; omega
      · exact dg s0 i (by omega) (by omega)
    by_cases c3 : i < i2
    · rcases hFr with ⟨⟨h1, h2⟩, h3⟩ | ⟨h1, h3⟩
      · by_cases h4 : i = i1
        · subst h4; omega
        · exact dg (i1 + 1) i (by omega) (by omega)
      · omega
    rcases hX with ⟨h1, h2, h3⟩ | h3
    · by_cases h4 : i = i2
      · subst h4; omega
      by_cases h5 : i < f
      · have h6 : i = i2 + 1 := by omega
        rcases hf1 with ⟨h7, h8⟩ | ⟨h7, h8⟩
        · subst h6; omega
        · omega
      · exact dg f i (by omega) (by omega)
    · omega
  · rcases hs1 with ⟨h1, h2⟩ | ⟨h1, h2⟩
    · exact .inl h1
    · subst h2; exact .inr hp.2
end Go.Proofs.Ytjnmcadfaombjaa

/- Plain: what Parse gives may come of Parse (chapter 10). -/
namespace Go.Proofs.Ytjnmcadfaombjaa
set_option linter.unusedVariables false
set_option linter.unusedSimpArgs false
def tokOK (t : Tok) : Prop := good t.text = true ∧ (t.kind = 48 ∨ t.kind = 97 → aloneB t.text t.kind = true) ∧ (t.kind = 91 ∨ t.kind = 123 → t.text = [])
theorem good_low : ∀ (l : List UInt8), (∀ b ∈ l, b.toNat < 128) → good l = true
  | [], _ => good_nil
  | b :: l, h => by rw [good_ascii (h b (by simp)), good_low l (fun x hx => h x (by simp [hx]))]
theorem strJ_good : ∀ (m : Nat) (l : List UInt8), l.length ≤ m → ∀ t n, strJ l = some (t, n) → good t = true
  | m, [], _, t, n, h => by rw [strJ_nil] at h; cases h
  | 0, _ :: _, hl, t, n, h => by simp at hl
  | m + 1, a :: r, hl, t, n, h => by
    have h0 : a :: r ≠ [] := by simp
    rw [strJ_step h0] at h
    split at h
    · simp only [Option.some.injEq, Prod.mk.injEq] at h
      obtain ⟨rfl, rfl⟩ := h
      exact good_nil
    · split at h
      · cases h
      · rename_i x k ho
        have hb := oneJ_bound ho
        cases hs : strJ ((a :: r).drop k) with
        | none => rw [hs] at h; cases h
        | some p =>
          obtain ⟨u, j⟩ := p
          rw [hs] at h
          simp only [Option.map_some, Option.some.injEq, Prod.mk.injEq] at h
          obtain ⟨rfl, rfl⟩ := h
          have hle : ((a :: r).drop k).length ≤ m := by rw [List.length_drop]; simp only [List.length_cons] at *; omega
          rw [good_enc]
          exact strJ_good m _ hle u j hs
theorem bt_mem {l : List UInt8} {b : UInt8} (h : b ∈ l) : ∃ i, i < l.length ∧ bt l i = b.toNat := by
  obtain ⟨i, hi⟩ := List.getElem?_of_mem h
  have hl := (List.getElem?_eq_some_iff.1 hi).1
  exact ⟨i, hl, by simp [bt, List.getD_eq_getElem?_getD, hi]⟩
theorem num_ok {x : List UInt8} {e : Nat} (hx : e ≤ x.length) (h : numE x 0 = some e) : good (x.take e) = true ∧ aloneB (x.take e) 48 = true := by
  obtain ⟨h1, h2, h3, h4⟩ := numE_cut h
  have hlen : (x.take e).length = e := by rw [List.length_take]; omega
  have hb0 : bt (x.take e) 0 = bt x 0 := by rw [bt_takeL, if_pos h4]
  constructor
  · apply good_low
    intro b hb
    obtain ⟨i, hi, he⟩ := bt_mem hb
    rw [← he, bt_takeL, if_pos (by omega)]
    exact h2 i (by omega)
  · have hne : x.take e ≠ [] := by intro y; rw [y] at hlen; simp at hlen; omega
    have hc : bt x 0 = 45 ∨ (48 ≤ bt x 0 ∧ bt x 0 ≤ 57) := by unfold isDg at h3; omega
    have ht : toks (x.take e) = some [⟨48, x.take e, 0, e⟩] := by
      have ho : oneT (x.take e) 0 = some ⟨48, x.take e, 0, e⟩ := by
        rw [one_kind (by omega), hb0, if_neg (by unfold markK; omega), if_neg (by omega), if_neg (by omega)]
        unfold numTok
        rw [h1]
        dsimp only
        rw [List.drop_zero, Nat.sub_zero, List.take_take, Nat.min_self]
      rw [toks_step hne, hb0, if_neg (by unfold blankK; omega), ho]
      dsimp only
      rw [List.drop_eq_nil_of_le (by omega)]
      rfl
    unfold aloneB
    rw [ht]
    simp
theorem word_ok (w : List UInt8) (h1 : ∀ b ∈ w, b.toNat < 128) (h2 : aloneB w 97 = true) (k e : Nat) : tokOK ⟨97, w, k, e⟩ := ⟨good_low w h1, fun _ => h2, fun h => (by dsimp only at h; omega)⟩
theorem alone_true : aloneB tTrue 97 = true := by kernel_rfl
theorem alone_false : aloneB tFalse 97 = true := by kernel_rfl
theorem alone_null : aloneB tNull 97 = true := by kernel_rfl
theorem oneT_ok {l : List UInt8} {k : Nat} {t : Tok} (hk : k < l.length) (h : oneT l k = some t) : tokOK t := by
  unfold oneT at h
  split at h
  · rename_i hm
    cases h
    refine ⟨good_nil, fun h => ?_, fun _ => rfl⟩
    unfold markK at hm
    dsimp only at h
    omega
  split at h
  · split at h
    · cases h
    · rename_i u n hs
      cases h
      exact ⟨strJ_good _ _ (Nat.le_refl _) u n hs, fun h => (by dsimp only at h; omega), fun h => (by dsimp only at h; omega)⟩
  split at h
  · cases h; exact word_ok _ (by decide) alone_true _ _
  split at h
  · cases h; exact word_ok _ (by decide) alone_false _ _
  split at h
  · cases h; exact word_ok _ (by decide) alone_null _ _
  split at h
  · cases h
  · rename_i e he
    cases h
    have h1 := numE_drop l k 0
    rw [Nat.add_zero, he] at h1
    cases h2 : numE (l.drop k) 0 with
    | none => rw [h2] at h1; cases h1
    | some e0 =>
      rw [h2] at h1
      simp only [Option.map_some, Option.some.injEq] at h1
      have hb := numE_bd hk he
      obtain ⟨h3, h4⟩ := num_ok (x := l.drop k) (e := e0) (by rw [List.length_drop]; omega) h2
      have h5 : e - k = e0 := by omega
      refine ⟨by rw [h5]; exact h3, fun _ => by rw [h5]; exact h4, fun h => (by dsimp only at h; omega)⟩
theorem toksF_ok : ∀ (f : Nat) (l : List UInt8) (k : Nat) (ts : List Tok), toksF f l k = some ts → ∀ t ∈ ts, tokOK t ∧ t.text.length ≤ 4 * l.length
  | 0, l, k, ts, h => by unfold toksF at h; cases h; simp
  | f + 1, l, k, ts, h => by
    unfold toksF at h
    split at h
    · cases h; simp
    · split at h
      · exact toksF_ok f l (k + 1) ts h
      · split at h
        · cases h
        · rename_i h1 h2 t ho
          have hb := oneT_bd (by omega) ho
          cases hr : toksF f l t.to with
          | none => rw [hr] at h; cases h
          | some r =>
            rw [hr] at h
            cases h
            intro t' ht'
            rcases List.mem_cons.1 ht' with rfl | h3
            · exact ⟨oneT_ok (by omega) ho, hb.2.2.2.2⟩
            · exact toksF_ok f l t.to r hr t' h3
theorem fitsL_of {ns : List Node} {d : Nat} (h : ∀ n ∈ ns, fitsN n d = true) : fitsL ns d = true :=
  fitsL_at.2 fun j n hj => h n (List.mem_of_getElem? hj)
theorem SmallL_of {ns : List Node} (h : ∀ n ∈ ns, SmallN n) : SmallL ns := by
  induction ns with
  | nil => unfold SmallL; trivial
  | cons m ns ih => unfold SmallL; exact ⟨h m (by simp), ih fun n hn => h n (by simp [hn])⟩
theorem deepL_le {ns : List Node} : ∀ n ∈ ns, deepN n ≤ deepL ns := by
  induction ns with
  | nil => intro n hn; cases hn
  | cons m ns ih =>
    intro n hn
    rw [deepL]
    rcases List.mem_cons.1 hn with rfl | h
    · omega
    · have := ih n h; omega
theorem length_sizeL (ns : List Node) : ns.length ≤ sizeL ns := by
  induction ns with
  | nil => simp [sizeL]
  | cons m ns ih => cases m; simp only [sizeL, sizeN, List.length_cons]; omega
/-- What holds of what was read of a row or a map. -/
structure Good2 (map : Bool) (ks : List (List UInt8)) (ns : List Node) : Prop where
  len : map = true → ks.length = ns.length
  none : map = false → ks = []
  keys : ∀ k ∈ ks, good k = true ∧ k.length ≤ 100000
  kids : ∀ n ∈ ns, SmallN n ∧ ∀ d, d + deepN n ≤ 33 → fitsN n d = true
theorem elems_good {val : Nat → Option (Node × Nat)} {ts : List Tok} {map : Bool} {endk : Nat} (hts : ∀ t ∈ ts, tokOK t ∧ t.text.length ≤ 100000) (hv : ∀ k n k2, val k = some (n, k2) → SmallN n ∧ ∀ d, d + deepN n ≤ 33 → fitsN n d = true) :
    ∀ (g k : Nat) (ks : List (List UInt8)) (ns : List Node) (ks' : List (List UInt8)) (ns' : List Node) (k' : Nat), elems val ts map endk g k ks ns = some (ks', ns', k') → Good2 map ks ns → Good2 map ks' ns'
  | 0, k, ks, ns, ks', ns', k', h, hg => by cases h
  | g + 1, k, ks, ns, ks', ns', k', h, hg => by
    unfold elems at h
    split at h
    · cases h
    · split at h
      · cases h
      · rename_i n k2 hval
        have h1 := hv _ _ _ hval
        have hx : good (txt ts k) = true ∧ (txt ts k).length ≤ 100000 := by
          unfold txt
          cases ht : ts[k]? with
          | none => exact ⟨good_nil, by simp⟩
          | some t => have := hts t (List.mem_of_getElem? ht); exact ⟨this.1.1, this.2⟩
        have hn : Good2 map (if map then ks ++ [txt ts k] else ks) (ns ++ [n]) := by
          refine ⟨fun h => ?_, fun h => ?_, fun u hu => ?_, fun m hm => ?_⟩
          · rw [if_pos h, List.length_append, List.length_append, hg.len h]; rfl
          · rw [h, if_neg (by simp)]; exact hg.none h
          · cases map
            · rw [if_neg (by simp)] at hu; exact hg.keys u hu
            · rw [if_pos rfl] at hu
              rcases List.mem_append.1 hu with h2 | h2
              · exact hg.keys u h2
              · rw [List.mem_singleton.1 h2]; exact hx
          · rcases List.mem_append.1 hm with h2 | h2
            · exact hg.kids m h2
            · rw [List.mem_singleton.1 h2]; exact h1
        split at h
        · simp only [Option.some.injEq, Prod.mk.injEq] at h
          obtain ⟨rfl, rfl, _⟩ := h
          exact hn
        · split at h
          · exact elems_good hts hv g _ _ _ _ _ _ h hn
          · cases h
theorem val_good {ts : List Tok} (hts : ∀ t ∈ ts, tokOK t ∧ t.text.length ≤ 100000) (hl : ts.length ≤ 100000) : ∀ (f k : Nat) (n : Node) (k2 : Nat), valI f ts k = some (n, k2) → SmallN n ∧ ∀ d, d + deepN n ≤ 33 → fitsN n d = true
  | 0, k, n, k2, h => by cases h
  | f + 1, k, n, k2, h => by
    have hsz := valI_size _ _ _ _ _ h
    have hbd := valI_bd _ _ _ _ _ h
    obtain ⟨t, ht, hkind⟩ := valI_head h
    obtain ⟨⟨g1, g2, g3⟩, g4⟩ := hts t (List.mem_of_getElem? ht)
    rw [valI_at ht] at h
    by_cases q1 : t.kind = 34 ∨ t.kind = 48 ∨ t.kind = 97
    · rw [if_pos q1] at h
      cases h
      refine ⟨by unfold SmallN SmallL; exact ⟨g4, fun k hk => (by cases hk), by simp, by simp, trivial⟩, fun d hd => ?_⟩
      simp only [deepN, deepL] at hd
      rw [fitsN, decide_eq_true (by omega : d ≤ 32), g1]
      by_cases q34 : t.kind = 34
      · simp [okK, q34, fitsL]
      · have := g2 (by omega)
        have q2 : t.kind = 48 ∨ t.kind = 97 := by omega
        simp [okK, q34, q2, this, fitsL]
    rw [if_neg q1, if_neg (by omega)] at h
    have htx := g3 (by omega)
    obtain ⟨map, hmap⟩ : ∃ map, decide (t.kind = 123) = map := ⟨_, rfl⟩
    have fin : ∀ (ks : List (List UInt8)) (ns : List Node), Good2 map ks ns → n = .mk t.kind t.text ks ns → SmallN n ∧ ∀ d, d + deepN n ≤ 33 → fitsN n d = true := by
      intro ks ns hg hn
      have hnl : ns.length ≤ 100000 := by
        have := length_sizeL ns
        rw [hn] at hsz
        simp only [sizeN] at hsz
        omega
      have hkl : ks.length ≤ 100000 := by
        cases map
        · rw [hg.none rfl]; simp
        · rw [hg.len rfl]; exact hnl
      rw [hn]
      refine ⟨by unfold SmallN; exact ⟨g4, fun k hk => (hg.keys k hk).2, hkl, hnl, SmallL_of fun m hm => (hg.kids m hm).1⟩, fun d hd => ?_⟩
      rw [deepN] at hd
      have hL : fitsL ns (d + 1) = true := fitsL_of fun m hm => (hg.kids m hm).2 (d + 1) (by have := deepL_le m hm; omega)
      rw [fitsN, decide_eq_true (by omega : d ≤ 32), g1, hL]
      cases map
      · have h91 : t.kind = 91 := by have : t.kind ≠ 123 := by simpa using hmap
                                     omega
        rw [h91, htx, hg.none rfl]; rfl
      · have h123 : t.kind = 123 := by simpa using hmap
        have ha : (ks.all fun k => good k) = true := List.all_eq_true.2 fun k hk => (hg.keys k hk).1
        rw [h123, htx]
        show (true && true && (decide (ks.length = ns.length) && (ks.all fun k => good k) && decide (([] : List UInt8) = [])) && true) = true
        rw [ha, decide_eq_true (hg.len rfl)]; rfl
    have g0 : Good2 map [] [] := ⟨fun _ => rfl, fun _ => rfl, fun k hk => (by cases hk), fun m hm => (by cases hm)⟩
    obtain ⟨E, hE⟩ : ∃ E, (if t.kind = 123 then 125 else 93) = E := ⟨_, rfl⟩
    rw [hE, hmap] at h
    by_cases h3 : isK ts (k + 1) E = true
    · rw [if_pos h3] at h
      simp only [Option.some.injEq, Prod.mk.injEq] at h
      exact fin [] [] g0 h.1.symm
    · rw [if_neg h3] at h
      cases he : elems (fun j => valI f ts j) ts map E ts.length (k + 1) [] [] with
      | none => rw [he] at h; cases h
      | some out =>
        obtain ⟨ks, ns, k3⟩ := out
        rw [he] at h
        simp only [Option.some.injEq, Prod.mk.injEq] at h
        exact fin ks ns (elems_good hts (fun k n k2 h => val_good hts hl f k n k2 h) _ _ _ _ _ _ _ he g0) h.1.symm
/-- What Parse gives may come of Parse. -/
theorem parse_fits {l : List UInt8} {n : Node} (hl : l.length ≤ 25000) (h : parseJ l = .ok n) : SmallN n ∧ fitsN n 1 = true := by
  unfold parseJ at h
  split at h
  · cases h
  · rename_i ts htk
    have hlen := toks_len htk
    have hok := toksF_ok _ _ _ _ htk
    split at h
    · cases h
    · rename_i m k hv
      split at h
      · split at h
        · cases h
        · rename_i h1 h2
          cases h
          obtain ⟨h3, h4⟩ := val_good (fun t ht => ⟨(hok t ht).1, by have := (hok t ht).2; omega⟩) (by omega) _ _ _ _ hv
          exact ⟨h3, h4 1 (by omega)⟩
      · cases h
end Go.Proofs.Ytjnmcadfaombjaa

/- Walks: the document's Same of two nodes (chapter 10). -/
namespace Go.Proofs.Ytjnmcadfaombjaa
open Go.RowKit
set_option linter.unusedVariables false
set_option linter.unusedSimpArgs false
mutual
def sameN : Node → Node → Bool
  | .mk q t ks ns, .mk q' t' ks' ns' => decide (q = q') && decide (t = t') && decide (ks = ks') && decide (ns.length = ns'.length) && sameL ns ns'
def sameL : List Node → List Node → Bool
  | [], _ => true
  | _ :: _, [] => true
  | a :: xs, b :: ys => sameN a b && sameL xs ys
end
mutual
theorem sameN_self : ∀ a : Node, sameN a a = true
  | .mk q t ks ns => by rw [sameN, sameL_self ns]; simp
theorem sameL_self : ∀ xs : List Node, sameL xs xs = true
  | [] => rfl
  | a :: xs => by rw [sameL, sameN_self a, sameL_self xs]; rfl
end
theorem sameL_at : ∀ {xs ys : List Node}, sameL xs ys = true ↔ ∀ (j : Nat) (a b : Node), xs[j]? = some a → ys[j]? = some b → sameN a b = true
  | [], ys => by simp [sameL]
  | a :: xs, [] => by simp [sameL]
  | a :: xs, b :: ys => by
    rw [sameL, Bool.and_eq_true, sameL_at (xs := xs) (ys := ys)]
    constructor
    · rintro ⟨h1, h2⟩ j x y hx hy
      cases j with
      | zero => cases hx; cases hy; exact h1
      | succ j => exact h2 j x y hx hy
    · intro h
      exact ⟨h 0 a b rfl rfl, fun j x y hx hy => h (j + 1) x y hx hy⟩
theorem node_drew {w : World} {ok : Nat → Prop} {n : Node} {v : Value} (h : NodeW w ok n v) : NodeW w.drew ok n v := NodeW.mono (w := w) (w' := w.drew) (ok' := ok) (fun g hg hl => ⟨hg, hl, rfl⟩) n v h
theorem cell_lt {w : World} {g o : Nat} {u : Value} (h : w.cell? ⟨g, o, none⟩ = some u) : g < w.heap.size := by
  rcases Nat.lt_or_ge g w.heap.size with h1 | h1
  · exact h1
  · exfalso; simp [World.cell?, Array.getElem?_eq_none h1] at h
theorem below_drewS {w w' : World} (h : Below w.drew.heap.size w.drew w') : Below w.heap.size w w' := ⟨h.os, h.tape, h.output, h.size, h.block⟩
def SamC (a : Node) : Prop := ∀ (b : Node) (ok ok' : Nat → Prop) (a0 a1 a2 a3 b0 b1 b2 b3 : Value) (w : World), NodeW w ok a (.agg #[a0, a1, a2, a3]) → NodeW w ok' b (.agg #[b0, b1, b2, b3]) → SmallN a → SmallN b →
  Calls Try.prog 15 #[.agg #[a0, a1, a2, a3], .agg #[b0, b1, b2, b3]] w fun e w' => e = .returned (.bool (sameN a b)) ∧ Below w.heap.size w w'
set_option maxRecDepth 100000 in
set_option maxHeartbeats 8000000 in
theorem same_one (q : Nat) (t : List UInt8) (ks : List (List UInt8)) (ns : List Node) (hF : ∀ (j : Nat) (n : Node), ns[j]? = some n → SamC n) : SamC (.mk q t ks ns) := by
  intro b ok ok' a0 a1 a2 a3 b0 b1 b2 b3 w ha hb hsa hsb
  obtain ⟨q', t', ks', ns'⟩ := b
  unfold NodeW at ha hb
  obtain ⟨kv, nv, cs, hv, h1, h2, h3⟩ := ha
  simp only [Value.agg.injEq, Array.mk.injEq, List.cons.injEq, and_true] at hv
  obtain ⟨rfl, rfl, rfl, rfl⟩ := hv
  obtain ⟨kv', nv', cs', hv, g1, g2, g3⟩ := hb
  simp only [Value.agg.injEq, Array.mk.injEq, List.cons.injEq, and_true] at hv
  obtain ⟨rfl, rfl, rfl, rfl⟩ := hv
  have hT := TxtR.of h1
  have hT' := TxtR.of g1
  obtain ⟨o1, c1, rfl⟩ := rowW_len h1
  obtain ⟨o2, c2, rfl⟩ := rowW_len h2
  obtain ⟨o3, c3, rfl⟩ := rowW_len g1
  obtain ⟨o4, c4, rfl⟩ := rowW_len g2
  unfold SmallN at hsa hsb
  obtain ⟨_, _, s3, s4, s5⟩ := hsa
  obtain ⟨_, _, s3', s4', s5'⟩ := hsb
  have HV : Hid (sameN (.mk q t ks ns) (.mk q' t' ks' ns') = (decide (q = q') && decide (t = t') && decide (ks = ks') && decide (ns.length = ns'.length) && sameL ns ns')) := by show _ = _; rw [sameN]
  have q1 : ((q : Int) != (q' : Int)) = !decide (q = q') := by
    by_cases h : q = q'
    · simp [h]
    · have : ¬ ((q : Int) = (q' : Int)) := by omega
      simp [h, this]
  have q2 := str_same t t'
  have q3 : ((ns.length : Int) != (ns'.length : Int)) = !decide (ns.length = ns'.length) := by
    by_cases h : ns.length = ns'.length
    · simp [h]
    · have : ¬ ((ns.length : Int) = (ns'.length : Int)) := by omega
      simp [h, this]
  have HSm := Lib.hid (And.intro s5 s5')
  have HF := Lib.hid hF
  have HN0 := Lib.hid ((Blk.new w 44 #[.int .u8 q, .string (strOf t), .slice o1 ks.length c1, .slice o2 ns.length c2]).alloc (.cells #[.int .u8 q', .string (strOf t'), .slice o3 ks'.length c3, .slice o4 ns'.length c4] 44))
  have HM0 : Hid (Blk ((w.alloc (.cells #[.int .u8 q, .string (strOf t), .slice o1 ks.length c1, .slice o2 ns.length c2] 44)).alloc (.cells #[.int .u8 q', .string (strOf t'), .slice o3 ks'.length c3, .slice o4 ns'.length c4] 44)) (w.heap.size + 1) 44 #[.int .u8 q', .string (strOf t'), .slice o3 ks'.length c3, .slice o4 ns'.length c4]) := by
    have := Blk.new (w.alloc (.cells #[.int .u8 q, .string (strOf t), .slice o1 ks.length c1, .slice o2 ns.length c2] 44)) 44 #[.int .u8 q', .string (strOf t'), .slice o3 ks'.length c3, .slice o4 ns'.length c4]
    rwa [World.size_alloc] at this
  have hB0 := ((Below.refl w.heap.size w).alloc (Nat.le_refl _) (.cells #[.int .u8 q, .string (strOf t), .slice o1 ks.length c1, .slice o2 ns.length c2] 44)).alloc (by simp) (.cells #[.int .u8 q', .string (strOf t'), .slice o3 ks'.length c3, .slice o4 ns'.length c4] 44)
  have HSK := Lib.hid (rsame_any ks ks' _ _ _ (txtR_below hT hB0) (txtR_below hT' hB0) (by omega) (by omega))
  have HB0 := Lib.hid hB0
  have HR := Lib.hid h2
  have HKd := Lib.hid h3
  have HR' := Lib.hid g2
  have HKd' := Lib.hid g3
  clear hT hT' hB0 h1 h2 h3 g1 g2 g3 hF s5 s5'
  generalize strOf t = x at *
  generalize strOf t' = y at *
  go_enter Try.func15, Try.ntmps15
  go_upto_region 1 with fail
  generalize (w.alloc (.cells #[.int .u8 q, .string x, .slice o1 ks.length c1, .slice o2 ns.length c2] 44)).alloc (.cells #[.int .u8 q', .string y, .slice o3 ks'.length c3, .slice o4 ns'.length c4] 44) = W0 at *
  have n0 := HN0.out.cell 0
  have n1 := HN0.out.cell 1
  have n2 := HN0.out.cell 2
  have m0 := HM0.out.cell 0
  have m1 := HM0.out.cell 1
  have m2 := HM0.out.cell 2
  generalize decide (q = q') = b1 at *
  generalize decide (t = t') = b2 at *
  generalize decide (ks = ks') = b3 at *
  cases b1
  · go_wp2_with fail
    go_ret
    exact ⟨by rw [HV.out]; rfl, HB0.out⟩
  cases b2
  · go_wp2_with fail
    go_ret
    exact ⟨by rw [HV.out]; rfl, HB0.out⟩
  cases b3
  · go_wp2_with fail
    refine HSK.out.mono ?_
    rintro e w2 ⟨rfl, k2⟩
    go_wp2_with fail
    go_ret
    exact ⟨by rw [HV.out]; rfl, HB0.out.trans (k2.mono HB0.out.size)⟩
  go_wp2_with fail
  refine HSK.out.mono ?_
  rintro e w2 ⟨rfl, k2⟩
  have HN2 := Lib.hid (HN0.out.below k2 HN0.out.lt)
  have HM2 := Lib.hid (HM0.out.below k2 HM0.out.lt)
  have HB2 := Lib.hid (HB0.out.trans (k2.mono HB0.out.size))
  clear n0 n1 n2 m0 m1 m2 HN0 HM0 HB0 HSK k2 q1 q2
  have n3 := HN2.out.cell 3
  have m3 := HM2.out.cell 3
  by_cases hl : ns.length = ns'.length
  · rw [decide_eq_true hl] at q3 HV
    have HV2 : Hid (sameN (.mk q t ks ns) (.mk q' t' ks' ns') = sameL ns ns') := by show _ = _; rw [HV.out]; rfl
    have HLn := Lib.hid hl
    have hN1 := HN2.out.lt
    have hM1 := HM2.out.lt
    clear hl HV
    go_wp2_with fail
    go_loopw [5] (fun z wr => ∃ i : Nat, z = .int .i64 i ∧ i ≤ ns.length ∧ (∀ (j : Nat) (a b : Node), j < i → ns[j]? = some a → ns'[j]? = some b → sameN a b = true) ∧ Below w2.heap.size w2 wr) (fun z _ => ns.length - (intOf z).toNat)
    case atStart => exact ⟨0, rfl, Nat.zero_le _, fun j a b hj => by omega, Below.refl _ _⟩
    case round =>
      obtain ⟨i, rfl, hi, hs, hb⟩ := hrel
      have HS := Lib.hid hs
      have HB := Lib.hid hb
      have HNr := HN2.out.below hb hN1
      have HMr := HM2.out.below hb hM1
      have x3 := HNr.cell 3
      have y3 := HMr.cell 3
      clear n3 m3 hs
      by_cases hlt : i < ns.length
      · obtain ⟨a, ha⟩ : ∃ a, ns[i]? = some a := ⟨_, List.getElem?_eq_getElem hlt⟩
        obtain ⟨b, hb'⟩ : ∃ b, ns'[i]? = some b := ⟨_, List.getElem?_eq_getElem (by have := HLn.out; omega)⟩
        have hbw := HB2.out.trans (hb.mono HB2.out.size)
        obtain ⟨ga, _, e0, e1, e2, e3, hv, p0, p1, p2, p3, hNa⟩ := kid_at HR.out HKd.out ha hbw
        simp only [Value.slice.injEq] at hv
        obtain ⟨rfl, _, rfl⟩ := hv
        obtain ⟨gb, _, f0, f1, f2, f3, hv, r0, r1, r2, r3, hNb⟩ := kid_at HR'.out HKd'.out hb' hbw
        simp only [Value.slice.injEq] at hv
        obtain ⟨rfl, _, rfl⟩ := hv
        have HC := Lib.hid (HF.out i a ha b ok ok' e0 e1 e2 e3 f0 f1 f2 f3 wr.drew (node_drew hNa) (node_drew hNb) (HSm.out.1.at ha) (HSm.out.2.at hb'))
        have HAB := Lib.hid (And.intro ha hb')
        have hli : i < ns'.length := by have := HLn.out; omega
        have K1 : wr.drew.cell? ⟨w.heap.size, 3, none⟩ = some (.slice (some ⟨ga, 0, none⟩) ns.length c2) ∧ wr.drew.cell? ⟨w.heap.size + 1, 3, none⟩ = some (.slice (some ⟨gb, 0, none⟩) ns'.length c4) ∧ wr.drew.cell? ⟨ga, i * 4, none⟩ = some e0 ∧ wr.drew.cell? ⟨ga, i * 4 + 1, none⟩ = some e1 ∧ wr.drew.cell? ⟨ga, i * 4 + 2, none⟩ = some e2 ∧ wr.drew.cell? ⟨ga, i * 4 + 3, none⟩ = some e3 ∧ wr.drew.cell? ⟨gb, i * 4, none⟩ = some f0 ∧ wr.drew.cell? ⟨gb, i * 4 + 1, none⟩ = some f1 ∧ wr.drew.cell? ⟨gb, i * 4 + 2, none⟩ = some f2 ∧ wr.drew.cell? ⟨gb, i * 4 + 3, none⟩ = some f3 := ⟨x3, y3, p0, p1, p2, p3, r0, r1, r2, r3⟩
        have K2 : ∀ w', Below wr.drew.heap.size wr.drew w' → w'.cell? ⟨w.heap.size, 3, none⟩ = some (.slice (some ⟨ga, 0, none⟩) ns.length c2) ∧ w'.cell? ⟨w.heap.size + 1, 3, none⟩ = some (.slice (some ⟨gb, 0, none⟩) ns'.length c4) ∧ w'.cell? ⟨ga, i * 4, none⟩ = some e0 ∧ w'.cell? ⟨ga, i * 4 + 1, none⟩ = some e1 ∧ w'.cell? ⟨ga, i * 4 + 2, none⟩ = some e2 ∧ w'.cell? ⟨ga, i * 4 + 3, none⟩ = some e3 ∧ w'.cell? ⟨gb, i * 4, none⟩ = some f0 ∧ w'.cell? ⟨gb, i * 4 + 1, none⟩ = some f1 ∧ w'.cell? ⟨gb, i * 4 + 2, none⟩ = some f2 ∧ w'.cell? ⟨gb, i * 4 + 3, none⟩ = some f3 := by
          have l1 : ga < wr.heap.size := cell_lt p0
          have l2 : gb < wr.heap.size := cell_lt r0
          have l3 : w.heap.size < wr.heap.size := Nat.lt_of_lt_of_le hN1 hb.size
          have l4 : w.heap.size + 1 < wr.heap.size := Nat.lt_of_lt_of_le hM1 hb.size
          intro w' h
          exact ⟨(h.cell (p := ⟨w.heap.size, 3, none⟩) l3).trans x3, (h.cell (p := ⟨w.heap.size + 1, 3, none⟩) l4).trans y3, (h.cell (p := ⟨ga, i * 4, none⟩) l1).trans p0, (h.cell (p := ⟨ga, i * 4 + 1, none⟩) l1).trans p1, (h.cell (p := ⟨ga, i * 4 + 2, none⟩) l1).trans p2, (h.cell (p := ⟨ga, i * 4 + 3, none⟩) l1).trans p3, (h.cell (p := ⟨gb, i * 4, none⟩) l2).trans r0, (h.cell (p := ⟨gb, i * 4 + 1, none⟩) l2).trans r1, (h.cell (p := ⟨gb, i * 4 + 2, none⟩) l2).trans r2, (h.cell (p := ⟨gb, i * 4 + 3, none⟩) l2).trans r3⟩
        have HK2 := Lib.hid K2
        obtain ⟨rs, hrs⟩ : ∃ rs, sameN a b = rs := ⟨_, rfl⟩
        rw [hrs] at HC
        have HRS := Lib.hid hrs
        clear ha hb' hNa hNb HNr HMr hbw hrs K2 y3 p0 p1 p2 p3 r0 r1 r2 r3 hb
        go_wp2_with fail
        go_region_held3 (fun w' => w'.cell? ⟨w.heap.size, 3, none⟩ = some (.slice (some ⟨ga, 0, none⟩) ns.length c2) ∧ w'.cell? ⟨w.heap.size + 1, 3, none⟩ = some (.slice (some ⟨gb, 0, none⟩) ns'.length c4) ∧ w'.cell? ⟨ga, i * 4, none⟩ = some e0 ∧ w'.cell? ⟨ga, i * 4 + 1, none⟩ = some e1 ∧ w'.cell? ⟨ga, i * 4 + 2, none⟩ = some e2 ∧ w'.cell? ⟨ga, i * 4 + 3, none⟩ = some e3 ∧ w'.cell? ⟨gb, i * 4, none⟩ = some f0 ∧ w'.cell? ⟨gb, i * 4 + 1, none⟩ = some f1 ∧ w'.cell? ⟨gb, i * 4 + 2, none⟩ = some f2 ∧ w'.cell? ⟨gb, i * 4 + 3, none⟩ = some f3) (first | (with_reducible exact K1) | (exact HK2.out _ k5)) ((go_at_call 15; refine HC.out.mono ?_; rintro e w5 ⟨rfl, k5⟩))
        have HB5 := Lib.hid (HB.out.trans (Below.mono (below_drewS k5) HB.out.size))
        cases rs
        · have HE : Hid (sameL ns ns' = false) := by
            show _ = _
            rw [Bool.eq_false_iff]; intro h
            have := sameL_at.1 h i a b HAB.out.1 HAB.out.2
            rw [HRS.out] at this; cases this
          go_wp2_with fail
          go_ret
          exact ⟨by rw [HV2.out, HE.out]; rfl, HB2.out.trans (HB5.out.mono HB2.out.size)⟩
        · go_wp2_with fail
          go_roundw
          case rel =>
            refine ⟨i + 1, by go_num, hlt, fun j a' b' hj h1 h2 => ?_, HB5.out⟩
            rcases Nat.lt_or_ge j i with h | h
            · exact HS.out j a' b' h h1 h2
            · obtain rfl : j = i := by omega
              rw [HAB.out.1] at h1; rw [HAB.out.2] at h2
              cases h1; cases h2; exact HRS.out
          case measure => simp [intOf]; omega
      · have HE : Hid (sameL ns ns' = true) := sameL_at.2 fun j a b hja hjb => HS.out j a b (by have := (List.getElem?_eq_some_iff.1 hja).1; omega) hja hjb
        clear HNr HMr
        go_wp2_with fail
        go_ret
        exact ⟨by rw [HV2.out, HE.out]; rfl, HB2.out.trans (HB.out.mono HB2.out.size)⟩
  · rw [decide_eq_false hl] at q3 HV
    clear hl
    go_wp2_with fail
    go_ret
    exact ⟨by rw [HV.out]; rfl, HB2.out⟩
mutual
theorem same_any : ∀ n : Node, SamC n
  | .mk q t ks ns => same_one q t ks ns fun j n hj => same_all ns j n hj
theorem same_all : ∀ (ns : List Node) (j : Nat) (n : Node), ns[j]? = some n → SamC n
  | [], j, n, h => by simp at h
  | m :: ns, 0, n, h => by
    have h1 : m = n := by simpa using h
    rw [← h1]; exact same_any m
  | m :: ns, j + 1, n, h => same_all ns j n (by simpa using h)
end
end Go.Proofs.Ytjnmcadfaombjaa

/- What lies in memory while the law's 'its' copies a node (chapter 10). -/
namespace Go.Proofs.Ytjnmcadfaombjaa
open Go.RowKit
set_option linter.unusedVariables false
set_option linter.unusedSimpArgs false
/-- The copy under way: the node that is read lies in block B, the result's box behind it, the copy behind that. -/
structure MidI (ok : Nat → Prop) (q : Nat) (x : ByteArray) (B : Nat) (w : World) (kv nv0 : Value) (ns : List Node) (nv : Value) (cs : List Value) (wr : World) : Prop where
  hI : Blk wr B 39 #[.int .u8 q, .string x, kv, nv0]
  hR : Blk wr (B + 1) 44 zeroNC
  hN : Blk wr (B + 2) 44 #[.int .u8 q, .string x, kv, nv]
  hnv : wr.ownsRow (B + 3) 44 4 nv ns.length cs
  hkids : KidsW wr (fun g => (ok g ∧ g < B) ∨ (B + 3 ≤ g ∧ nv.ownBlock ≠ some g)) ns cs
  bel : Below B w wr
variable {ok : Nat → Prop} {q : Nat} {x : ByteArray} {B : Nat} {w : World} {kv nv0 : Value} {ns : List Node} {nv : Value} {cs : List Value} {wr : World}
theorem MidI.below {w2 : World} (h : MidI ok q x B w kv nv0 ns nv cs wr) (hb : Below wr.heap.size wr w2) : MidI ok q x B w kv nv0 ns nv cs w2 :=
  ⟨h.hI.below hb h.hI.lt, h.hR.below hb h.hR.lt, h.hN.below hb h.hN.lt, ownsRow_ofBelow h.hnv hb,
    KidsW.mono (fun g hg hl => ⟨hg, by have := hb.size; omega, hb.block g hl⟩) ns cs h.hkids, h.bel.trans (hb.mono (Nat.le_of_lt h.hI.lt))⟩
theorem MidI.drew (h : MidI ok q x B w kv nv0 ns nv cs wr) : MidI ok q x B w kv nv0 ns nv cs wr.drew :=
  ⟨h.hI, h.hR, h.hN, h.hnv, KidsW.mono (w := wr) (w' := wr.drew) (fun g hg hl => ⟨hg, hl, rfl⟩) ns cs h.hkids, h.bel.drew⟩
/-- One kid more: w2 is the world behind its copy, w3 the one behind the append. -/
theorem MidI.kid {n : Node} {a b c d : Value} {wc w2 w3 : World} {g3 cap3 : Nat} {o1 : Obj} (hc : MidI ok q x B w kv nv0 ns nv cs wc) (h : MidI ok q x B w kv nv0 ns nv cs w2) (hsz : wc.heap.size ≤ w2.heap.size)
    (hn : NodeW w2 (fun g => (ok g ∧ g < B) ∨ wc.heap.size ≤ g) n (.agg #[a, b, c, d])) (hN3 : Blk w3 (B + 2) 44 #[.int .u8 q, .string x, kv, nv])
    (ho : w3.ownsRow (B + 3) 44 4 (.slice (some ⟨g3, 0, none⟩) (ns.length + 1) cap3) (ns.length + 1) (cs ++ [a, b, c, d]))
    (hg : (w2.alloc o1).grownBy w3 nv.ownBlock) (hf : nv.ownBlock = some g3 ∨ w2.heap.size ≤ g3) :
    MidI ok q x B w kv nv0 (ns ++ [n]) (.slice (some ⟨g3, 0, none⟩) (ns.length + 1) cap3) (cs ++ [a, b, c, d]) (w3.setCell ⟨B + 2, 3, none⟩ (.slice (some ⟨g3, 0, none⟩) (ns.length + 1) cap3)) := by
  have hnl := fun b hb => hc.hnv.lt b hb
  have hsz3 : w2.heap.size + 1 ≤ w3.heap.size := by have := hg.size; simpa using this
  have hsz4 : (w3.setCell ⟨B + 2, 3, none⟩ (.slice (some ⟨g3, 0, none⟩) (ns.length + 1) cap3)).heap.size = w3.heap.size := by simp [World.setCell]
  have hblk : ∀ k, k < w2.heap.size → k ≠ B + 2 → nv.ownBlock ≠ some k → (w3.setCell ⟨B + 2, 3, none⟩ (.slice (some ⟨g3, 0, none⟩) (ns.length + 1) cap3)).heap[k]? = w2.heap[k]? := by
    intro k hk hne hkn
    rw [Below.heap_setCell w3 ⟨B + 2, 3, none⟩ _ k hne, hg.block k (by simp; omega) (fun h => hkn h.symm)]
    exact Below.heap_alloc w2 o1 k hk
  have hRl := h.hR.lt
  have hNl := hc.hN.lt
  refine ⟨?_, ?_, hN3.set_ 3 _, ?_, ?_, ?_⟩
  · exact (hblk B (by omega) (by omega) (fun e => by have := (hnl B e).1; omega)).trans h.hI
  · exact (hblk (B + 1) hRl (by omega) (fun e => by have := (hnl (B + 1) e).1; omega)).trans h.hR
  · rw [List.length_append]; exact ownsRow_setCell_below ho (a := ⟨B + 2, 3, none⟩) (by show B + 2 < B + 3; omega) _
  · have hnew : ∀ g, g < w2.heap.size → nv.ownBlock ≠ some g → (Value.slice (some ⟨g3, 0, none⟩) (ns.length + 1) cap3).ownBlock ≠ some g := fun g hl e2 e => by
      simp [Value.ownBlock] at e
      subst e
      rcases hf with hf | hf
      · exact e2 hf
      · omega
    refine KidsW.snoc ?_ ns cs ?_
    · refine NodeW.mono (fun g hg2 hl => ?_) n _ hn
      have e2 : nv.ownBlock ≠ some g := fun e => by
        have := (hnl g e).1; have := (hnl g e).2
        rcases hg2 with h1 | h1 <;> omega
      refine ⟨?_, by omega, hblk g hl (by rcases hg2 with h1 | h1 <;> omega) e2⟩
      rcases hg2 with h1 | h1
      · exact .inl h1
      · exact .inr ⟨by omega, hnew g hl e2⟩
    · refine KidsW.mono (fun g hg2 hl => ?_) ns cs h.hkids
      have e2 : nv.ownBlock ≠ some g := by
        rcases hg2 with h1 | h1
        · intro e; have := (hnl g e).1; omega
        · exact h1.2
      refine ⟨?_, by omega, hblk g hl (by rcases hg2 with h1 | h1 <;> omega) e2⟩
      rcases hg2 with h1 | h1
      · exact .inl h1
      · exact .inr ⟨h1.1, hnew g hl e2⟩
  · exact h.bel.trans ⟨hg.os, hg.tape, hg.output, by omega, fun k hk => hblk k (by have := h.hI.lt; omega) (by omega) (fun e => by have := (hnl k e).1; omega)⟩
end Go.Proofs.Ytjnmcadfaombjaa

/- Walks: the law's 'its' (chapter 10). -/
namespace Go.Proofs.Ytjnmcadfaombjaa
open Go.RowKit
set_option linter.unusedVariables false
set_option linter.unusedSimpArgs false
theorem deepL_mem : ∀ (ns : List Node) (j : Nat) (n : Node), ns[j]? = some n → deepN n ≤ deepL ns
  | [], j, n, h => by simp at h
  | m :: ns, 0, n, h => by simp at h; subst h; unfold deepL; omega
  | m :: ns, j + 1, n, h => by
    have := deepL_mem ns j n (by simpa using h)
    unfold deepL; omega
def ItsC (n : Node) : Prop := ∀ (d : Nat) (ok : Nat → Prop) (a b c e : Value) (w : World), d ≤ 1000 → deepN n ≤ d + 1 → NodeW w ok n (.agg #[a, b, c, e]) → SmallN n →
  Calls Try.prog 16 #[.agg #[a, b, c, e], .int .i64 d] w fun x w' => (∃ a' b' c' e', x = .returned (.agg #[a', b', c', e']) ∧ NodeW w' (fun g => (ok g ∧ g < w.heap.size) ∨ w.heap.size ≤ g) n (.agg #[a', b', c', e'])) ∧ Below w.heap.size w w'
set_option maxRecDepth 100000 in
set_option maxHeartbeats 8000000 in
theorem its_one (q : Nat) (t : List UInt8) (ks : List (List UInt8)) (ns : List Node) (hF : ∀ (j : Nat) (n : Node), ns[j]? = some n → ItsC n) : ItsC (.mk q t ks ns) := by
  intro d ok a b c e w hd hdp hn hs
  unfold NodeW at hn
  obtain ⟨kv, nv, cs, hv, h1, h2, h3⟩ := hn
  simp only [Value.agg.injEq, Array.mk.injEq, List.cons.injEq, and_true] at hv
  obtain ⟨rfl, rfl, rfl, rfl⟩ := hv
  obtain ⟨o1, c1, rfl⟩ := rowW_len h1
  obtain ⟨o2, c2, rfl⟩ := rowW_len h2
  unfold SmallN at hs
  obtain ⟨s1, s2, s3, s4, s5⟩ := hs
  have HK := Lib.hid h1
  have HR : Hid (RowW w (fun g => ok g ∧ g < w.heap.size) (.slice o2 ns.length c2) ns.length cs) := RowW.mono (fun g hg hl => ⟨⟨hg, hl⟩, hl, rfl⟩) h2
  have HKd : Hid (KidsW w (fun g => ok g ∧ g < w.heap.size) ns cs) := KidsW.mono (fun g hg hl => ⟨⟨hg, hl⟩, hl, rfl⟩) ns cs h3
  have HF := Lib.hid hF
  have HSm := Lib.hid s5
  have HDp := Lib.hid hdp
  clear h1 h2 h3 hF s5 hdp
  generalize hxx : strOf t = x at *
  have HX := Lib.hid hxx
  clear hxx
  go_enter Try.func16, Try.ntmps16
  go_upto_region 2 with fail
  have hI0 : Blk (((w.alloc (.cells #[.int .u8 q, .string x, .slice o1 ks.length c1, .slice o2 ns.length c2] 39)).alloc (.cells #[.int .u8 0, .string ⟨#[]⟩, .slice none 0 0, .slice none 0 0] 44)).alloc (.cells #[.int .u8 q, .string x, .slice o1 ks.length c1, .slice none 0 0] 44)) w.heap.size 39 #[.int .u8 q, .string x, .slice o1 ks.length c1, .slice o2 ns.length c2] := ((Blk.new w _ _).alloc _).alloc _
  have hR0 : Blk (((w.alloc (.cells #[.int .u8 q, .string x, .slice o1 ks.length c1, .slice o2 ns.length c2] 39)).alloc (.cells #[.int .u8 0, .string ⟨#[]⟩, .slice none 0 0, .slice none 0 0] 44)).alloc (.cells #[.int .u8 q, .string x, .slice o1 ks.length c1, .slice none 0 0] 44)) (w.heap.size + 1) 44 zeroNC := by
    have := (Blk.new (w.alloc (.cells #[.int .u8 q, .string x, .slice o1 ks.length c1, .slice o2 ns.length c2] 39)) 44 #[.int .u8 0, .string ⟨#[]⟩, .slice none 0 0, .slice none 0 0]).alloc (.cells #[.int .u8 q, .string x, .slice o1 ks.length c1, .slice none 0 0] 44)
    rwa [World.size_alloc] at this
  have hN0 : Blk (((w.alloc (.cells #[.int .u8 q, .string x, .slice o1 ks.length c1, .slice o2 ns.length c2] 39)).alloc (.cells #[.int .u8 0, .string ⟨#[]⟩, .slice none 0 0, .slice none 0 0] 44)).alloc (.cells #[.int .u8 q, .string x, .slice o1 ks.length c1, .slice none 0 0] 44)) (w.heap.size + 2) 44 #[.int .u8 q, .string x, .slice o1 ks.length c1, .slice none 0 0] := by
    have := Blk.new ((w.alloc (.cells #[.int .u8 q, .string x, .slice o1 ks.length c1, .slice o2 ns.length c2] 39)).alloc (.cells #[.int .u8 0, .string ⟨#[]⟩, .slice none 0 0, .slice none 0 0] 44)) 44 #[.int .u8 q, .string x, .slice o1 ks.length c1, .slice none 0 0]
    rwa [World.size_alloc, World.size_alloc] at this
  have hb0 : Below w.heap.size w (((w.alloc (.cells #[.int .u8 q, .string x, .slice o1 ks.length c1, .slice o2 ns.length c2] 39)).alloc (.cells #[.int .u8 0, .string ⟨#[]⟩, .slice none 0 0, .slice none 0 0] 44)).alloc (.cells #[.int .u8 q, .string x, .slice o1 ks.length c1, .slice none 0 0] 44)) := (((Below.refl w.heap.size w).alloc (Nat.le_refl _) _).alloc (by simp) _).alloc (by simp; omega) _
  have HM0 : Hid (MidI ok q x w.heap.size w (.slice o1 ks.length c1) (.slice o2 ns.length c2) [] (.slice none 0 0) [] (((w.alloc (.cells #[.int .u8 q, .string x, .slice o1 ks.length c1, .slice o2 ns.length c2] 39)).alloc (.cells #[.int .u8 0, .string ⟨#[]⟩, .slice none 0 0, .slice none 0 0] 44)).alloc (.cells #[.int .u8 q, .string x, .slice o1 ks.length c1, .slice none 0 0] 44))) := ⟨hI0, hR0, hN0, World.ownsRow_nil _ _ _ _, by unfold KidsW; rfl, hb0⟩
  clear hI0 hR0 hN0 hb0
  generalize (((w.alloc (.cells #[.int .u8 q, .string x, .slice o1 ks.length c1, .slice o2 ns.length c2] 39)).alloc (.cells #[.int .u8 0, .string ⟨#[]⟩, .slice none 0 0, .slice none 0 0] 44)).alloc (.cells #[.int .u8 q, .string x, .slice o1 ks.length c1, .slice none 0 0] 44)) = W0 at *
  go_wp2_with fail
  go_loopw [6] (fun z wr => ∃ (i : Nat) (nv : Value) (cs' : List Value), z = .int .i64 i ∧ i ≤ ns.length ∧ MidI ok q x w.heap.size w (.slice o1 ks.length c1) (.slice o2 ns.length c2) (ns.take i) nv cs' wr) (fun z _ => ns.length - (intOf z).toNat)
  case atStart => exact ⟨0, _, _, rfl, Nat.zero_le _, HM0.out⟩
  case round =>
    obtain ⟨i, nv, cs', rfl, hi, hM⟩ := hrel
    have HM := Lib.hid hM
    clear hM HM0
    have i3 : wr.cell? ⟨w.heap.size, 3, none⟩ = some (.slice o2 ns.length c2) := HM.out.hI.cell 3
    by_cases hlt : i < ns.length
    · obtain ⟨n, hn⟩ : ∃ n, ns[i]? = some n := ⟨_, List.getElem?_eq_getElem hlt⟩
      obtain ⟨g, cap', e0, e1, e2, e3', hv, p0, p1, p2, p3, hN⟩ := kid_at HR.out HKd.out hn HM.out.bel
      simp only [Value.slice.injEq] at hv
      obtain ⟨rfl, _, rfl⟩ := hv
      have hdn : deepN n ≤ d := by
        have h1 := HDp.out
        rw [deepN] at h1
        have := deepL_mem ns i n hn
        omega
      have hdp2 : 0 < d := by have : 0 < deepN n := (by cases n; simp [deepN]); omega
      have hdi : (0 : Int) < (d : Int) := by omega
      have hw : IntKind.i64.wrap ((d : Int) - 1) = ((d - 1 : Nat) : Int) := by rw [IntWalk.i64_in _ (by omega)]; omega
      have HC := Lib.hid (HF.out i n hn (d - 1) (fun g => ok g ∧ g < w.heap.size) e0 e1 e2 e3' wr.drew (by omega) (by omega) (NodeW.mono (w := wr) (w' := wr.drew) (fun g hg hl => ⟨hg, hl, rfl⟩) _ _ hN) (HSm.out.at hn))
      have o3 : wr.cell? ⟨w.heap.size + 1 + 1, 3, none⟩ = some nv := HM.out.hN.cell 3
      have hwl := HM.out.hN.lt
      clear hN
      go_upto_region 5 with fail
      obtain ⟨i0, hi0, hz0, hz1, hz2⟩ := info_parts infoNode
      obtain ⟨o6, m6, c6, rfl⟩ := own_shape HM.out.hnv
      have htl : (ns.take i).length = i := by rw [List.length_take]; omega
      have e4 : (ns.take i).length + 1 ≤ maxLen := by unfold maxLen; omega
      have e5 : ((ns.take i).length + 1) * 72 ≤ 140737488355328 := by omega
      have HMd := Lib.hid HM.out.drew
      go_region_law (first | (go_simp; go_at_call 16; refine HC.out.mono ?_; rintro e w2 ⟨⟨na, nb, nc, nd, rfl, hnn⟩, hb2⟩; obtain ⟨v1, v2, v3, v4, v5, v6, v7, v8, rfl, rfl, rfl, rfl⟩ := node_shape hnn; have hMc := HMd.out.below hb2; have e6 : w.heap.size + 3 ≤ (w2.alloc (.cells #[.int .u8 v1, .string v2, .slice v3 v4 v5, .slice v6 v7 v8] 44)).heap.size := (by have h9 : wr.heap.size ≤ w2.heap.size := hb2.size; rw [World.size_alloc]; omega); have hnc := hMc.hnv.alloc (.cells #[.int .u8 v1, .string v2, .slice v3 v4 v5, .slice v6 v7 v8] 44); have hNc := hMc.hN.alloc (.cells #[.int .u8 v1, .string v2, .slice v3 v4 v5, .slice v6 v7 v8] 44); have q3 : w2.cell? ⟨w.heap.size + 1 + 1, 3, none⟩ = some (.slice o6 m6 c6) := hMc.hN.cell 3; have q4 : (w2.alloc (.cells #[.int .u8 v1, .string v2, .slice v3 v4 v5, .slice v6 v7 v8] 44)).cell? ⟨w.heap.size + 1 + 1, 3, none⟩ = some (.slice o6 m6 c6) := hNc.cell 3) | (refine step_append_lies _ rfl (.tmp 26) (.tmp 35) 42 rfl (w.heap.size + 3) 44 i0 zeroN 4 72 Try.underlying42 hi0 hz0 hz1 hz2 rfl (by decide) (.slice o6 m6 c6) (ns.take i).length cs' rfl hnc ⟨w2.heap.size, 0, none⟩ 1 1 [.int .u8 v1, .string v2, .slice v3 v4 v5, .slice v6 v7 v8] rfl rfl (cells_new w2 #[.int .u8 v1, .string v2, .slice v3 v4 v5, .slice v6 v7 v8] _) (by simp [Value.oneCell']) (by omega) e4 e5 e6 (w2.heap.size + 1) (by simp) ?_; intro g3 cap3 w3 hown3 hgrow3 hfr3 hlt3; have hN3 : Blk w3 (w.heap.size + 2) 44 _ := (hgrow3.block (w.heap.size + 2) hNc.lt (fun h => by have := (hnc.lt _ h.symm).1; omega)).trans hNc; have m3 : w3.cell? ⟨w.heap.size + 1 + 1, 3, none⟩ = some (.slice o6 m6 c6) := hN3.cell 3; have mf : w3.frozen? ⟨w.heap.size + 1 + 1, 3, none⟩ = false := hN3.frozen 3))
      all_goals
        have hmk := MidI.kid (wc := wr.drew) HMd.out hMc hb2.size (NodeW.mono (fun g hg hl => ⟨hg.imp (fun h => h.1) id, hl, rfl⟩) n _ hnn) hN3 hown3 hgrow3 (hfr3.imp id (fun h => by omega))
        have htk : ns.take i ++ [n] = ns.take (i + 1) := by rw [List.take_add_one, hn]; rfl
        rw [htk, htl] at hmk
        have HMK := Lib.hid hmk
        clear hmk htk
        go_wp2_with fail
        go_roundw
        case rel => exact ⟨i + 1, _, _, by go_num, hlt, HMK.out⟩
        case measure => simp [intOf]; omega
    · obtain ⟨o6, m6, c6, rfl⟩ := own_shape HM.out.hnv
      have hie : i = ns.length := by omega
      have htk : ns.take i = ns := by rw [hie, List.take_length]
      have n0 : wr.cell? ⟨w.heap.size + 1 + 1, 0, none⟩ = some (.int .u8 q) := HM.out.hN.cell 0
      have n1 : wr.cell? ⟨w.heap.size + 1 + 1, 1, none⟩ = some (.string x) := HM.out.hN.cell 1
      have n2 : wr.cell? ⟨w.heap.size + 1 + 1, 2, none⟩ = some (.slice o1 ks.length c1) := HM.out.hN.cell 2
      have n3 : wr.cell? ⟨w.heap.size + 1 + 1, 3, none⟩ = some (.slice o6 m6 c6) := HM.out.hN.cell 3
      have r0 : wr.cell? ⟨w.heap.size + 1, 0, none⟩ = some (.int .u8 0) := HM.out.hR.cell 0
      have r1 : wr.cell? ⟨w.heap.size + 1, 1, none⟩ = some (.string ⟨#[]⟩) := HM.out.hR.cell 1
      have r2 : wr.cell? ⟨w.heap.size + 1, 2, none⟩ = some (.slice none 0 0) := HM.out.hR.cell 2
      have r3 : wr.cell? ⟨w.heap.size + 1, 3, none⟩ = some (.slice none 0 0) := HM.out.hR.cell 3
      have f0 := HM.out.hR.frozen 0
      have f1 := HM.out.hR.frozen 1
      have f2 := HM.out.hR.frozen 2
      have f3 := HM.out.hR.frozen 3
      have HTk := Lib.hid htk
      clear htk
      go_wp2_with fail
      have hF := (((HM.out.hR.set_ 0 (.int .u8 q)).set_ 1 (.string x)).set_ 2 (.slice o1 ks.length c1)).set_ 3 (.slice o6 m6 c6)
      have t0 : (World.setCell _ _ _).cell? _ = some (.int .u8 q) := hF.cell 0
      have t1 : (World.setCell _ _ _).cell? _ = some (.string x) := hF.cell 1
      have t2 : (World.setCell _ _ _).cell? _ = some (.slice o1 ks.length c1) := hF.cell 2
      have t3 : (World.setCell _ _ _).cell? _ = some (.slice o6 m6 c6) := hF.cell 3
      have hkv := HK.out
      have hb := HM.out.bel
      have hk4 : ∀ k, k ≠ w.heap.size + 1 → (((((wr.setCell ⟨w.heap.size + 1, 0, none⟩ (.int .u8 q)).setCell ⟨w.heap.size + 1, 1, none⟩ (.string x)).setCell ⟨w.heap.size + 1, 2, none⟩ (.slice o1 ks.length c1)).setCell ⟨w.heap.size + 1, 3, none⟩ (.slice o6 m6 c6)).heap[k]? = wr.heap[k]?) := fun k hk => far4 _ _ _ _ hk
      have hsz : ((((wr.setCell ⟨w.heap.size + 1, 0, none⟩ (.int .u8 q)).setCell ⟨w.heap.size + 1, 1, none⟩ (.string x)).setCell ⟨w.heap.size + 1, 2, none⟩ (.slice o1 ks.length c1)).setCell ⟨w.heap.size + 1, 3, none⟩ (.slice o6 m6 c6)).heap.size = wr.heap.size := by simp [World.setCell]
      have hnode : NodeW ((((wr.setCell ⟨w.heap.size + 1, 0, none⟩ (.int .u8 q)).setCell ⟨w.heap.size + 1, 1, none⟩ (.string x)).setCell ⟨w.heap.size + 1, 2, none⟩ (.slice o1 ks.length c1)).setCell ⟨w.heap.size + 1, 3, none⟩ (.slice o6 m6 c6)) (fun g => (ok g ∧ g < w.heap.size) ∨ w.heap.size ≤ g) (.mk q t ks ns) (.agg #[.int .u8 q, .string x, .slice o1 ks.length c1, .slice o6 m6 c6]) := by
        unfold NodeW
        refine ⟨_, _, cs', by rw [HX.out], ?_, ?_, ?_⟩
        · exact hkv.mono fun g hg hl => ⟨.inl ⟨hg, hl⟩, by rw [hsz]; have := hb.size; omega, by rw [hk4 g (by omega)]; exact hb.block g hl⟩
        · have h5 := HM.out.hnv
          rw [HTk.out] at h5
          exact (RowW.own (ok := fun g => w.heap.size + 3 ≤ g) h5 (fun g _ hg => hg)).mono fun g hg hl => ⟨.inr (by omega), by rw [hsz]; exact hl, hk4 g (by omega)⟩
        · have h6 := HM.out.hkids
          rw [HTk.out] at h6
          exact KidsW.mono (fun g hg hl => ⟨by rcases hg with h7 | h7; exact .inl h7; exact .inr (by omega), by rw [hsz]; exact hl, hk4 g (by rcases hg with h7 | h7 <;> omega)⟩) ns cs' h6
      exact bodyPost_ret (v := .agg #[.int .u8 q, .string x, .slice o1 ks.length c1, .slice o6 m6 c6]) (by simp [results, Try.f16, go_sem, t0, t1, t2, t3]) rfl ⟨⟨_, _, _, _, rfl, hnode⟩, (((hb.setCell (p := ⟨w.heap.size + 1, 0, none⟩) (Nat.le_succ _) _).setCell (p := ⟨w.heap.size + 1, 1, none⟩) (Nat.le_succ _) _).setCell (p := ⟨w.heap.size + 1, 2, none⟩) (Nat.le_succ _) _).setCell (p := ⟨w.heap.size + 1, 3, none⟩) (Nat.le_succ _) _⟩
mutual
theorem its_any : ∀ n : Node, ItsC n
  | .mk q t ks ns => its_one q t ks ns fun j n hj => its_all ns j n hj
theorem its_all : ∀ (ns : List Node) (j : Nat) (n : Node), ns[j]? = some n → ItsC n
  | [], j, n, h => by simp at h
  | m :: ns, 0, n, h => by
    have h1 : m = n := by simpa using h
    rw [← h1]; exact its_any m
  | m :: ns, j + 1, n, h => its_all ns j n (by simpa using h)
end
end Go.Proofs.Ytjnmcadfaombjaa
