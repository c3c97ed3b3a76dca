/- Walks: the program's tokens of a page (chapter 11). -/
import Derived.Test.YtlogjghbdnaedaaTgW
import Derived.Test.YtlogjghbdnaedaaUtfJ
namespace Go.Proofs.Ytlogjghbdnaedaa
open Go.RowKit
set_option linter.unusedVariables false
set_option linter.unusedSimpArgs false
def zeroG : Value := .agg #[.int .u8 0, .string ⟨#[]⟩, .string ⟨#[]⟩, .slice none 0 0, .int .i64 0, .int .i64 0]
theorem infoG : (Try.prog.info? 45).map (fun i => (i.zero, i.size, i.bytes)) = some (some zeroG, 6, 80) := by kernel_rfl
/-- What Tokens says. -/
def TokT (o : Option (List Tg)) (B : Nat) (e : Ending) (w : World) : Prop := match o with
  | some ts => ∃ v, e = .returned (.tuple #[v, .int .i64 0]) ∧ TgsV w (fun b => B ≤ b) true ts v
  | none => e = .returned (.tuple #[.slice none 0 0, .int .i64 7])
/-- While tokens are read: the reader in its block g, the row behind it. -/
structure TM (w : World) (g : Nat) (s : ByteArray) (j : Nat) (v : Value) (ts : List Tg) (cs : List Value) (wr : World) : Prop where
  lg : w.heap.size ≤ g
  r : Rdr wr g s j
  ow : wr.ownsRow (g + 1) 45 6 v ts.length cs
  tg : TgsC wr (fun b => g + 1 ≤ b ∧ v.ownBlock ≠ some b) true ts cs
  bel : Below w.heap.size w wr
section
variable {w wr w' : World} {g j j' : Nat} {s : ByteArray} {v : Value} {ts : List Tg} {cs : List Value}
theorem TM.only (h : TM w g s j v ts cs wr) (ho : Only g wr w') (hr : Rdr w' g s j') : TM w g s j' v ts cs w' := by
  have hl := h.lg
  refine ⟨hl, hr, owns_only h.ow ho (by omega), TgsC.mono (fun b hb hbl => ⟨hb, Nat.lt_of_lt_of_le hbl ho.size, ho.block b hbl (by omega)⟩) ts cs h.tg, h.bel.trans (ho.below hl h.bel.size)⟩
theorem TM.bel_ (h : TM w g s j v ts cs wr) (hb : Below wr.heap.size wr w') : TM w g s j v ts cs w' := h.only (Only.of_below hb) (h.r.bel hb)
/-- One token more. -/
theorem TM.tok {t : Tg} {a b c d e f : Value} {w3 : World} {g3 cap3 : Nat} {o1 o2 : Obj} (h : TM w g s j v ts cs wr)
    (hn : TgV wr (fun b => g + 1 ≤ b ∧ v.ownBlock ≠ some b) true t (.agg #[a, b, c, d, e, f]))
    (ho : w3.ownsRow (g + 1) 45 6 (.slice (some ⟨g3, 0, none⟩) (ts.length + 1) cap3) (ts.length + 1) (cs ++ [a, b, c, d, e, f]))
    (hg : ((wr.alloc o1).alloc o2).grownBy w3 v.ownBlock) (hf : v.ownBlock = some g3 ∨ g3 = wr.heap.size + 2) :
    TM w g s j (.slice (some ⟨g3, 0, none⟩) (ts.length + 1) cap3) (ts ++ [t]) (cs ++ [a, b, c, d, e, f]) w3 := by
  have hl := h.lg
  have hnl := fun b hb => h.ow.lt b hb
  have hbk : ∀ k, k < wr.heap.size → v.ownBlock ≠ some k → w3.heap[k]? = wr.heap[k]? := by
    intro k hk hkn
    rw [hg.block k (by simp; omega) (fun h => hkn h.symm), Below.heap_alloc (wr.alloc o1) o2 k (by simp; omega)]
    exact Below.heap_alloc wr o1 k hk
  have hs3 : wr.heap.size ≤ w3.heap.size := by have := hg.size; simp at this; omega
  have hlow : ∀ k, k < g + 1 → v.ownBlock ≠ some k := fun k hk e => by have := (hnl k e).1; omega
  have hkeep : ∀ k, (g + 1 ≤ k ∧ v.ownBlock ≠ some k) → k < wr.heap.size → (g + 1 ≤ k ∧ (Value.slice (some ⟨g3, 0, none⟩) (ts.length + 1) cap3).ownBlock ≠ some k) ∧ k < w3.heap.size ∧ w3.heap[k]? = wr.heap[k]? := by
    intro k hk hkl
    refine ⟨⟨hk.1, fun e => ?_⟩, by omega, hbk k hkl hk.2⟩
    simp [Value.ownBlock] at e
    subst e
    rcases hf with hf | hf
    · exact hk.2 hf
    · omega
  have hgl := h.r.lt
  have hbs := h.bel.size
  refine ⟨hl, (hbk g hgl (hlow g (by omega))).trans h.r, ?_, TgsC.snoc (hn.mono hkeep) ts cs (TgsC.mono hkeep ts cs h.tg), h.bel.trans ⟨hg.os, hg.tape, hg.output, hs3, fun k hk => hbk k (by omega) (hlow k (by omega))⟩⟩
  rw [List.length_append]; exact ho
end
theorem listT6_len (a b c d e f : Value) : [a, b, c, d, e, f].length = 6 := rfl
set_option maxRecDepth 100000 in
set_option maxHeartbeats 16000000 in
theorem ttokens (s : ByteArray) (w : World) (hs : s.size ≤ 1000000) :
    Calls Try.prog 8 #[.string s] w fun e w' => TokT (tagsJ s.data.toList) w.heap.size e w' ∧ Below w.heap.size w w' := by
  have HL := Lib.hid (sz_len s)
  have HIS := Lib.hid (fun w => pis_any s w (by omega))
  obtain ⟨o, ho⟩ : ∃ o, tagsJ s.data.toList = o := ⟨_, rfl⟩
  rw [ho]
  have HO := Lib.hid ho
  clear ho
  cases hg : good s.data.toList with
  | false =>
    have HV : Hid (o = none) := by show _ = _; rw [← HO.out]; unfold tagsJ; rw [hg, if_neg (by decide)]
    rw [hg] at HIS
    clear hg
    go_enter Try.func8, Try.ntmps8
    go_wp2_with fail
    refine (HIS.out _).mono ?_
    rintro e w2 ⟨rfl, b2⟩
    go_wp2_with fail
    go_ret2
    exact ⟨by rw [HV.out]; rfl, b2⟩
  | true =>
    have HV0 : Hid (o = tgsAt s.data.toList 0) := by show _ = _; rw [← HO.out]; unfold tagsJ; rw [hg, if_pos rfl]
    rw [hg] at HIS
    clear hg HO
    go_enter Try.func8, Try.ntmps8
    go_wp2_with fail
    refine (HIS.out _).mono ?_
    rintro e w2 ⟨rfl, b2⟩
    have hR0 : Rdr (w2.alloc (.cells #[.string s, .int .i64 0] 53)) w2.heap.size s 0 := Blk.new w2 53 #[.string s, .int .i64 0]
    have HM0 : Hid (TM w w2.heap.size s 0 (.slice none 0 0) [] [] (w2.alloc (.cells #[.string s, .int .i64 0] 53))) := ⟨b2.size, hR0, World.ownsRow_nil _ _ _ _, rfl, b2.alloc b2.size _⟩
    clear hR0 b2 HIS
    go_upto_region 4 with fail
    generalize hW : w2.alloc (.cells #[.string s, .int .i64 0] 53) = W1 at *
    generalize w2.heap.size = g at *
    clear hW
    go_wp2_with fail
    go_loopw [5] (fun v wr => ∃ (j : Nat) (ts : List Tg) (cs : List Value), j ≤ s.size ∧ ts.length ≤ j ∧ o = (tgsAt s.data.toList j).map (ts ++ ·) ∧ TM w g s j v ts cs wr) (fun _ wr => s.size - atOf wr g)
    case atStart => exact ⟨0, [], [], Nat.zero_le _, by simp, by rw [HV0.out]; simp, HM0.out⟩
    case round =>
      obtain ⟨j, ts, cs, hj, htl, ho, hm⟩ := hrel
      have HOJ := Lib.hid ho
      have HM := Lib.hid hm
      have HMW := Lib.hid hm
      obtain ⟨o6, m6, c6, rfl⟩ := own_shapeT hm.ow
      have hgl := hm.r.lt
      clear ho hm HM0 HV0
      by_cases hlt : j < s.size
      · have HD := Lib.hid (fun w hR => done_no g j s w hR hs hlt)
        have HNX := Lib.hid (fun w hR => tnext g j s w hR hlt hs)
        have HST := Lib.hid (tgsAt_step (l := s.data.toList) (k := j) (by rw [← sz_len]; exact hlt))
        cases hone : oneG s.data.toList j with
        | none =>
          rw [hone] at HNX HST
          have HV : Hid (o = none) := by show _ = _; rw [HOJ.out, HST.out]; rfl
          have HNX2 : Hid (∀ w, Rdr w g s j → Calls Try.prog 25 #[.pointer (some ⟨g, 0, none⟩)] w fun e w' => (∃ (q : Int) (n t : ByteArray) (o : Option Addr) (m c : Nat) (f u : Int), e = .returned (.tuple #[.agg #[.int .u8 q, .string n, .string t, .slice o m c, .int .i64 f, .int .i64 u], .bool false])) ∧ Only g w w') := HNX.out
          clear hone HST HNX HOJ
          go_wp2_with fail
          refine (HD.out _ HM.out.r).mono ?_
          rintro e w3 ⟨rfl, b3⟩
          have HM3 := Lib.hid (HM.out.bel_ b3)
          clear b3 HM
          go_wp2_with fail
          refine (HNX2.out _ HM3.out.r).mono ?_
          rintro e w4 ⟨⟨qa, qn, qt, qo, qm, qc, qf, qu, rfl⟩, hO4⟩
          have HB4 := Lib.hid (HM3.out.bel.trans (hO4.below HM3.out.lg HM3.out.bel.size))
          clear hO4
          go_wp2_with fail
          go_ret2
          exact ⟨by rw [HV.out]; rfl, HB4.out.alloc HB4.out.size _⟩
        | some t =>
          rw [hone] at HNX HST
          have hta := oneG_at (by rw [← sz_len]; exact hlt) hone
          have hto := hta.le
          rw [← HL.out] at hto
          have htj := hta.lt
          have HOJ2 : Hid (o = (tgsAt s.data.toList t.to).map (ts ++ [t] ++ ·)) := by
            show _ = _
            rw [HOJ.out, HST.out]
            dsimp only
            cases tgsAt s.data.toList t.to with
            | none => rfl
            | some us => simp
          have HNX2 : Hid (∀ w, Rdr w g s j → Calls Try.prog 25 #[.pointer (some ⟨g, 0, none⟩)] w fun e w' => (∃ av ds, e = .returned (.tuple #[.agg #[.int .u8 t.kind, .string (strOf t.name), .string (strOf t.text), av, .int .i64 t.frm, .int .i64 t.to], .bool true]) ∧ RowG w' (fun b => w.heap.size ≤ b) av t.atts.length ds ∧ AttsC true t.atts ds ∧ Rdr w' g s t.to) ∧ Only g w w') := HNX.out
          clear hone HST HNX HOJ hta
          go_wp2_with fail
          refine (HD.out _ HM.out.r).mono ?_
          rintro e w3 ⟨rfl, b3⟩
          have HM3 := Lib.hid (HM.out.bel_ b3)
          clear b3 HM
          go_wp2_with fail
          refine (HNX2.out _ HM3.out.r).mono ?_
          rintro e w4 ⟨⟨av, ds, rfl, hrow, hat, hR4⟩, hO4⟩
          obtain ⟨ro, rc, rfl⟩ := rowG_len hrow
          have hM4 := HM3.out.only hO4 hR4
          have hgl3 := HM3.out.r.lt
          have hvl := fun b hb => (HM3.out.ow.lt b hb).2
          have hnew : TgV w4 (fun b => g + 1 ≤ b ∧ (Value.slice o6 m6 c6).ownBlock ≠ some b) true t (.agg #[.int .u8 t.kind, .string (strOf t.name), .string (strOf t.text), .slice ro t.atts.length rc, .int .i64 t.frm, .int .i64 t.to]) :=
            ⟨_, _, _, ds, rfl, PlG.exact_, RowG.mono (ok := fun b => w3.heap.size ≤ b) (fun b hb hl => ⟨⟨by omega, fun e => by have := hvl b e; omega⟩, hl, rfl⟩) hrow, hat⟩
          have HM4 := Lib.hid hM4
          have HNW := Lib.hid hnew
          clear hO4 hR4 hrow hat hM4 hnew HM3 HNX2 hgl3 hvl HD
          obtain ⟨i0, hi, hz0, hz1, hz2⟩ := info_parts infoG
          have e3 : ts.length + 1 ≤ maxLen := by unfold maxLen; omega
          have e4 : (ts.length + 1) * 80 ≤ 140737488355328 := by omega
          obtain ⟨n1, hn1⟩ : ∃ n1, strOf t.name = n1 := ⟨_, rfl⟩
          obtain ⟨n2, hn2⟩ : ∃ n2, strOf t.text = n2 := ⟨_, rfl⟩
          rw [hn1, hn2] at HNW ⊢
          clear hn1 hn2
          have e5 : g + 1 ≤ ((w4.alloc (.cells #[.int .u8 t.kind, .string n1, .string n2, .slice ro t.atts.length rc, .int .i64 t.frm, .int .i64 t.to] 45)).alloc (.cells #[.int .u8 t.kind, .string n1, .string n2, .slice ro t.atts.length rc, .int .i64 t.frm, .int .i64 t.to] 45)).heap.size := by have := HM4.out.r.lt; simp; omega
          have hnc := (HM4.out.ow.alloc (.cells #[.int .u8 t.kind, .string n1, .string n2, .slice ro t.atts.length rc, .int .i64 t.frm, .int .i64 t.to] 45)).alloc (.cells #[.int .u8 t.kind, .string n1, .string n2, .slice ro t.atts.length rc, .int .i64 t.frm, .int .i64 t.to] 45)
          have hcn := cells_newT (w4.alloc (.cells #[.int .u8 t.kind, .string n1, .string n2, .slice ro t.atts.length rc, .int .i64 t.frm, .int .i64 t.to] 45)) #[.int .u8 t.kind, .string n1, .string n2, .slice ro t.atts.length rc, .int .i64 t.frm, .int .i64 t.to] 45
          rw [World.size_alloc] at hcn
          have HCN := Lib.hid hcn
          clear hcn
          go_wp2_with (at_builtin; refine wpList_append_lies _ rfl _ _ 23 rfl (g + 1) 45 i0 zeroG 6 80 Try.underlying23 hi hz0 hz1 hz2 rfl (by decide) (.slice o6 m6 c6) ts.length cs rfl hnc ⟨w4.heap.size + 1, 0, none⟩ 1 1 [.int .u8 t.kind, .string n1, .string n2, .slice ro t.atts.length rc, .int .i64 t.frm, .int .i64 t.to] rfl rfl HCN.out (by simp [Value.oneCell']) (by omega) e3 e4 e5 (w4.heap.size + 2) (by simp) ?_; intro g3 cap3 w5 hown3 hgrow3 hfr3 hlt3)
          have HM5 := Lib.hid (HM4.out.tok HNW.out hown3 hgrow3 hfr3)
          go_roundw
          case rel => exact ⟨t.to, ts ++ [t], _, hto, by rw [List.length_append]; simp; omega, HOJ2.out, HM5.out⟩
          case measure =>
            have h1 := HMW.out.r.at_
            have h2 := HM5.out.r.at_
            omega
      · have HD := Lib.hid (fun w hR => done_yes g j s w hR (by omega) hs (by omega))
        have HV : Hid (o = some ts) := by
          show _ = _
          rw [HOJ.out, tgsAt_end (by rw [← HL.out]; omega)]; simp
        clear HOJ
        go_wp2_with fail
        refine (HD.out _ HM.out.r).mono ?_
        rintro e w3 ⟨rfl, b3⟩
        have HM3 := Lib.hid (HM.out.bel_ b3)
        clear b3 HM
        go_wp2_with fail
        go_ret2
        refine ⟨by rw [HV.out]; exact ⟨_, rfl, cs, RowG.own HM3.out.ow (fun b _ h => by have := HM3.out.lg; omega), TgsC.mono (fun b hb hl => ⟨by have := HM3.out.lg; omega, hl, rfl⟩) ts cs HM3.out.tg⟩, HM3.out.bel⟩
end Go.Proofs.Ytlogjghbdnaedaa
