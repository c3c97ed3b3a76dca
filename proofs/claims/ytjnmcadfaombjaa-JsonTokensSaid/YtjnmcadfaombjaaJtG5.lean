/- Walks: the program's Parse (chapter 10). -/
import Derived.Test.YtjnmcadfaombjaaJtG4
import Derived.Test.YtjnmcadfaombjaaJtG3
import Derived.Test.YtjnmcadfaombjaaJsW
namespace Go.Proofs.Ytjnmcadfaombjaa
open Go.RowKit
set_option linter.unusedVariables false
set_option linter.unusedSimpArgs false
theorem toksF_kind : ∀ (f : Nat) (l : List UInt8) (k : Nat) (ts : List Tok), toksF f l k = some ts → ∀ t ∈ ts, t.kind < 256
  | 0, l, k, ts, h => by unfold toksF at h; cases h; simp
  | f + 1, l, k, ts, h => by
    unfold toksF at h
    split at h
    · cases h; simp
    · split at h
      · exact toksF_kind f l (k + 1) ts h
      · split at h
        · cases h
        · rename_i h1 h2 t ho
          have hb := oneT_bd (by omega) ho
          cases hr : toksF f l t.to with
          | none => rw [hr] at h; cases h
          | some r =>
            rw [hr] at h
            cases h
            intro t' ht'
            rcases List.mem_cons.1 ht' with rfl | h3
            · exact hb.2.2.2.1
            · exact toksF_kind f l t.to r hr t' h3
theorem tok_rowJ {w : World} {B : Nat} {v : Value} {ts : List Tok} (h : w.ownsRow B 31 4 v ts.length (tokCs ts)) : ∃ ao cap, v = .slice ao ts.length cap ∧ ts.length ≤ cap ∧ TokAt w w.heap.size ao ts := by
  have hr := RowW.own (ok := fun _ => True) h (fun _ _ _ => trivial)
  have hcap : ∀ ao cap, v = .slice ao ts.length cap → ts.length ≤ cap := by
    intro ao cap hv
    rcases h.2 with ⟨h1, h2⟩ | ⟨g, c, cur, h1, _, _, r1, _⟩
    · omega
    · rw [hv] at h1
      simp only [Value.slice.injEq] at h1
      obtain ⟨_, _, rfl⟩ := h1
      exact r1
  rcases hr with ⟨hv, h0, _⟩ | ⟨g, cap, hv, _, hl, hc⟩
  · have h1 : ts = [] := List.length_eq_zero_iff.1 h0
    refine ⟨none, 0, by rw [hv, h0], by omega, .inl h1⟩
  · exact ⟨_, cap, hv, hcap _ _ hv, .inr ⟨g, rfl, hl, hc⟩⟩
theorem parse_shape {l : List UInt8} {ts : List Tok} (h : toks l = some ts) : (shapeN ts = 0 ∧ parseJ l = .error 7) ∨ (32 < shapeN ts ∧ parseJ l = .error 8) ∨ (0 < shapeN ts ∧ shapeN ts ≤ 32 ∧ ∃ n, valI (ts.length + 1) ts 0 = some (n, ts.length) ∧ parseJ l = .ok n) := by
  have hp : parseJ l = match val ts with
      | none => .error 7
      | some (n, k) => if k = ts.length then (if 32 < deepN n then .error 8 else .ok n) else .error 7 := by unfold parseJ; rw [h]; rfl
  rw [hp, shape_val]
  cases hv : val ts with
  | none => exact .inl ⟨rfl, rfl⟩
  | some r =>
    obtain ⟨n, k⟩ := r
    dsimp only
    by_cases hk : k = ts.length
    · rw [if_pos hk, if_pos hk]
      have hpos := deepN_pos n
      by_cases h3 : 32 < deepN n
      · rw [if_pos h3]; exact .inr (.inl ⟨h3, rfl⟩)
      · rw [if_neg h3]
        refine .inr (.inr ⟨hpos, by omega, n, ?_, rfl⟩)
        subst hk; exact hv
    · rw [if_neg hk, if_neg hk]; exact .inl ⟨rfl, rfl⟩
set_option maxRecDepth 100000 in
set_option maxHeartbeats 8000000 in
theorem jparse_any (s : ByteArray) (w : World) (hs : s.size ≤ 100000) :
    Calls Try.prog 13 #[.string s] w fun e w' => ParR (parseJ s.data.toList) w.heap.size e w' ∧ Below w.heap.size w w' := by
  have HTk := Lib.hid (fun w => jtokens s w hs)
  have hl : s.data.toList.length = s.size := (sz_len s).symm
  have HR := Lib.hid (Blk.new w 39 #[.int .u8 0, .string ⟨#[]⟩, .slice none 0 0, .slice none 0 0])
  have HB := Lib.hid ((Below.refl w.heap.size w).alloc (Nat.le_refl _) (.cells #[.int .u8 0, .string ⟨#[]⟩, .slice none 0 0, .slice none 0 0] 39))
  have HRl : Hid (w.heap.size < (w.alloc (.cells #[.int .u8 0, .string ⟨#[]⟩, .slice none 0 0, .slice none 0 0] 39)).heap.size) := HR.out.lt
  go_enter Try.func13, Try.ntmps13
  go_upto_region 1 with fail
  generalize w.alloc (.cells #[.int .u8 0, .string ⟨#[]⟩, .slice none 0 0, .slice none 0 0] 39) = W0 at *
  go_wp2_with fail
  refine (HTk.out _).mono ?_
  rintro e w2 ⟨ht, hb2⟩
  have hR2 := HR.out.below hb2 HRl.out
  have hB2 := HB.out.trans (hb2.mono (Nat.le_of_lt HRl.out))
  cases htk : toks s.data.toList with
  | none =>
    rw [htk] at ht
    have ht2 : e = .returned (.tuple #[.slice none 0 0, .int .i64 7]) := ht
    subst ht2
    have HP : Hid (parseJ s.data.toList = .error 7) := by show _ = _; unfold parseJ; rw [htk]
    clear ht htk HTk HR HB HRl hb2
    have r0 := hR2.cell 0
    have f0 := hR2.frozen 0
    have r1 := hR2.cell 1
    have f1 := hR2.frozen 1
    have r2 := hR2.cell 2
    have f2 := hR2.frozen 2
    have r3 := hR2.cell 3
    have f3 := hR2.frozen 3
    go_wp2_with fail
    have hF := (((hR2.set_ 0 (.int .u8 0)).set_ 1 (.string ⟨#[]⟩)).set_ 2 (.slice none 0 0)).set_ 3 (.slice none 0 0)
    have s0 : (World.setCell _ _ _).cell? _ = some (.int .u8 0) := hF.cell 0
    have s1 : (World.setCell _ _ _).cell? _ = some (.string ⟨#[]⟩) := hF.cell 1
    have s2 : (World.setCell _ _ _).cell? _ = some (.slice none 0 0) := hF.cell 2
    have s3 : (World.setCell _ _ _).cell? _ = some (.slice none 0 0) := hF.cell 3
    exact bodyPost_ret (v := .tuple #[.agg #[.int .u8 0, .string ⟨#[]⟩, .slice none 0 0, .slice none 0 0], .int .i64 7]) (by simp [results, Try.f13, go_sem, s0, s1, s2, s3]) rfl ⟨by rw [HP.out]; rfl, (((hB2.setCell (p := ⟨w.heap.size, 0, none⟩) (Nat.le_refl _) _).setCell (p := ⟨w.heap.size, 1, none⟩) (Nat.le_refl _) _).setCell (p := ⟨w.heap.size, 2, none⟩) (Nat.le_refl _) _).setCell (p := ⟨w.heap.size, 3, none⟩) (Nat.le_refl _) _⟩
  | some ts =>
    have hlen := toks_len htk
    have hps := parse_shape htk
    have HKD := Lib.hid (toksF_kind _ _ _ _ htk)
    rw [htk] at ht
    obtain ⟨v, rfl, hown⟩ : ∃ v, e = .returned (.tuple #[v, .int .i64 0]) ∧ w2.ownsRow W0.heap.size 31 4 v ts.length (tokCs ts) := ht
    obtain ⟨ao, cap, rfl, hcap, hT⟩ := tok_rowJ hown
    have HT := Lib.hid hT
    have HPS := Lib.hid hps
    clear hown htk hps hT
    go_wp2_with fail
    refine (jshape ts ao cap w2.heap.size w2 HT.out (Nat.le_refl _) (by omega) HKD.out).mono ?_
    rintro e w3 ⟨rfl, hb3⟩
    have hR3 := hR2.below hb3 hR2.lt
    have hB3 := hB2.trans (hb3.mono hB2.size)
    have HT3 := Lib.hid ((HT.out.below hb3 (Nat.le_refl _)).wider hb3.size)
    clear HT hb2 hb3 hR2 hB2 HTk HR HB HRl HKD
    rcases HPS.out with ⟨h0, hp⟩ | ⟨h0, hp⟩ | ⟨h0, h32, n, hv, hp⟩
    · rw [h0]
      have HP := Lib.hid hp
      clear h0 hp HPS
      have r0 := hR3.cell 0
      have f0 := hR3.frozen 0
      have r1 := hR3.cell 1
      have f1 := hR3.frozen 1
      have r2 := hR3.cell 2
      have f2 := hR3.frozen 2
      have r3 := hR3.cell 3
      have f3 := hR3.frozen 3
      go_wp2_with fail
      have hF := (((hR3.set_ 0 (.int .u8 0)).set_ 1 (.string ⟨#[]⟩)).set_ 2 (.slice none 0 0)).set_ 3 (.slice none 0 0)
      have s0 : (World.setCell _ _ _).cell? _ = some (.int .u8 0) := hF.cell 0
      have s1 : (World.setCell _ _ _).cell? _ = some (.string ⟨#[]⟩) := hF.cell 1
      have s2 : (World.setCell _ _ _).cell? _ = some (.slice none 0 0) := hF.cell 2
      have s3 : (World.setCell _ _ _).cell? _ = some (.slice none 0 0) := hF.cell 3
      exact bodyPost_ret (v := .tuple #[.agg #[.int .u8 0, .string ⟨#[]⟩, .slice none 0 0, .slice none 0 0], .int .i64 7]) (by simp [results, Try.f13, go_sem, s0, s1, s2, s3]) rfl ⟨by rw [HP.out]; rfl, (((hB3.setCell (p := ⟨w.heap.size, 0, none⟩) (Nat.le_refl _) _).setCell (p := ⟨w.heap.size, 1, none⟩) (Nat.le_refl _) _).setCell (p := ⟨w.heap.size, 2, none⟩) (Nat.le_refl _) _).setCell (p := ⟨w.heap.size, 3, none⟩) (Nat.le_refl _) _⟩
    · have HP := Lib.hid hp
      have hq : ((shapeN ts : Int) == 0) = false := by simp; omega
      have hq2 : (32 : Int) < (shapeN ts : Int) := by omega
      generalize shapeN ts = D at *
      clear h0 hp HPS
      have r0 := hR3.cell 0
      have f0 := hR3.frozen 0
      have r1 := hR3.cell 1
      have f1 := hR3.frozen 1
      have r2 := hR3.cell 2
      have f2 := hR3.frozen 2
      have r3 := hR3.cell 3
      have f3 := hR3.frozen 3
      go_wp2_with fail
      have hF := (((hR3.set_ 0 (.int .u8 0)).set_ 1 (.string ⟨#[]⟩)).set_ 2 (.slice none 0 0)).set_ 3 (.slice none 0 0)
      have s0 : (World.setCell _ _ _).cell? _ = some (.int .u8 0) := hF.cell 0
      have s1 : (World.setCell _ _ _).cell? _ = some (.string ⟨#[]⟩) := hF.cell 1
      have s2 : (World.setCell _ _ _).cell? _ = some (.slice none 0 0) := hF.cell 2
      have s3 : (World.setCell _ _ _).cell? _ = some (.slice none 0 0) := hF.cell 3
      exact bodyPost_ret (v := .tuple #[.agg #[.int .u8 0, .string ⟨#[]⟩, .slice none 0 0, .slice none 0 0], .int .i64 8]) (by simp [results, Try.f13, go_sem, s0, s1, s2, s3]) rfl ⟨by rw [HP.out]; rfl, (((hB3.setCell (p := ⟨w.heap.size, 0, none⟩) (Nat.le_refl _) _).setCell (p := ⟨w.heap.size, 1, none⟩) (Nat.le_refl _) _).setCell (p := ⟨w.heap.size, 2, none⟩) (Nat.le_refl _) _).setCell (p := ⟨w.heap.size, 3, none⟩) (Nat.le_refl _) _⟩
    · have HP := Lib.hid hp
      have hq : ((shapeN ts : Int) == 0) = false := by simp; omega
      have hq2 : ¬ ((32 : Int) < (shapeN ts : Int)) := by omega
      generalize shapeN ts = D at *
      clear h0 hp HPS h32
      obtain ⟨t0, ht0, _⟩ := valI_head hv
      obtain ⟨g, rfl, _⟩ := HT3.out.facts ht0
      have HBd := Lib.hid (jbuild_any ts g (by omega) (ts.length + 1) 0 ts.length n 0 ts.length cap w3 hv rfl (by omega) hcap HT3.out)
      clear hv HT3 ht0
      go_wp2_with fail
      refine (HBd.out).mono ?_
      rintro e w4 ⟨⟨na, nb, nc, nd, mm, hmm, rfl, hn⟩, hb4⟩
      have HN := Lib.hid hn
      obtain ⟨v1, v2, v3, v4, v5, v6, v7, v8, rfl, rfl, rfl, rfl⟩ := node_shape hn
      clear hn HBd hmm
      have hR4 := (hR3.below hb4 hR3.lt).alloc (.cells #[.int .u8 v1, .string v2, .slice v3 v4 v5, .slice v6 v7 v8] 39)
      have hB4 := (hB3.trans (hb4.mono hB3.size)).alloc (by have := hB3.size; have := hb4.size; omega) (.cells #[.int .u8 v1, .string v2, .slice v3 v4 v5, .slice v6 v7 v8] 39)
      have hK4 := Blk.new w4 39 #[.int .u8 v1, .string v2, .slice v3 v4 v5, .slice v6 v7 v8]
      have hwb := hR3.lt
      have HN2 : Hid (NodeW (w4.alloc (.cells #[.int .u8 v1, .string v2, .slice v3 v4 v5, .slice v6 v7 v8] 39)) (fun g => w3.heap.size ≤ g) n (.agg #[.int .u8 v1, .string v2, .slice v3 v4 v5, .slice v6 v7 v8])) := node_alloc _ HN.out
      clear HN hb4 hR3 hB3
      go_upto_region 10 with fail
      generalize w4.alloc (.cells #[.int .u8 v1, .string v2, .slice v3 v4 v5, .slice v6 v7 v8] 39) = W5 at *
      have k0 := hK4.cell 0
      have k1 := hK4.cell 1
      have k2 := hK4.cell 2
      have k3 := hK4.cell 3
      have r0 := hR4.cell 0
      have f0 := hR4.frozen 0
      have r1 := hR4.cell 1
      have f1 := hR4.frozen 1
      have r2 := hR4.cell 2
      have f2 := hR4.frozen 2
      have r3 := hR4.cell 3
      have f3 := hR4.frozen 3
      go_wp2_with fail
      have hF := (((hR4.set_ 0 (.int .u8 v1)).set_ 1 (.string v2)).set_ 2 (.slice v3 v4 v5)).set_ 3 (.slice v6 v7 v8)
      have s0 : (World.setCell _ _ _).cell? _ = some (.int .u8 v1) := hF.cell 0
      have s1 : (World.setCell _ _ _).cell? _ = some (.string v2) := hF.cell 1
      have s2 : (World.setCell _ _ _).cell? _ = some (.slice v3 v4 v5) := hF.cell 2
      have s3 : (World.setCell _ _ _).cell? _ = some (.slice v6 v7 v8) := hF.cell 3
      exact bodyPost_ret (v := .tuple #[.agg #[.int .u8 v1, .string v2, .slice v3 v4 v5, .slice v6 v7 v8], .int .i64 0]) (by simp [results, Try.f13, go_sem, s0, s1, s2, s3]) rfl ⟨by rw [HP.out]; exact ⟨_, _, _, _, rfl, NodeW.mono (fun g hg hl => ⟨by omega, by simpa [World.setCell] using hl, far4 _ _ _ _ (by omega)⟩) _ _ HN2.out⟩, (((hB4.setCell (p := ⟨w.heap.size, 0, none⟩) (Nat.le_refl _) _).setCell (p := ⟨w.heap.size, 1, none⟩) (Nat.le_refl _) _).setCell (p := ⟨w.heap.size, 2, none⟩) (Nat.le_refl _) _).setCell (p := ⟨w.heap.size, 3, none⟩) (Nat.le_refl _) _⟩
end Go.Proofs.Ytjnmcadfaombjaa

/- Walks: the law's examples (chapter 10). -/
namespace Go.Proofs.Ytjnmcadfaombjaa
open Go.RowKit
set_option linter.unusedVariables false
set_option linter.unusedSimpArgs false
theorem awk_toks : toks (⟨#[123, 34, 97, 34, 58, 91, 49, 93, 125]⟩ : ByteArray).data.toList = some [⟨123, [], 0, 1⟩, ⟨34, [97], 1, 4⟩, ⟨58, [], 4, 5⟩, ⟨91, [], 5, 6⟩, ⟨48, [49], 6, 7⟩, ⟨93, [], 7, 8⟩, ⟨125, [], 8, 9⟩] := by kernel_rfl
theorem awk_1 : parseJ (⟨#[91, 49, 44, 93]⟩ : ByteArray).data.toList = .error 7 := by kernel_rfl
theorem awk_2 : parseJ (⟨#[48, 49]⟩ : ByteArray).data.toList = .error 7 := by kernel_rfl
theorem awk_3 : parseJ (⟨#[91, 34, 92, 117, 48, 48, 52, 49, 34, 44, 32, 110, 117, 108, 108, 93]⟩ : ByteArray).data.toList = .ok (.mk 91 [] [] [.mk 34 [65] [] [], .mk 97 tNull [] []]) := by kernel_rfl
theorem node_textJ {w : World} {ok : Nat → Prop} {n : Node} {a b c d : Value} (h : NodeW w ok n (.agg #[a, b, c, d])) : b = .string (strOf n.text) := by
  obtain ⟨k, t, ks, ns⟩ := n
  unfold NodeW at h
  obtain ⟨kv, nv, cs, hv, _⟩ := h
  simp only [Value.agg.injEq, Array.mk.injEq, List.cons.injEq, and_true] at hv
  exact hv.2.1
/-- A node of two kids in memory: the first one's text. -/
theorem node_first {w : World} {ok : Nat → Prop} {q : Nat} {t : List UInt8} {ks : List (List UInt8)} {n1 n2 : Node} {a b c d : Value} (h : NodeW w ok (.mk q t ks [n1, n2]) (.agg #[a, b, c, d])) :
    ∃ (g c2 : Nat), d = .slice (some ⟨g, 0, none⟩) 2 c2 ∧ g < w.heap.size ∧ w.cell? ⟨g, 1, none⟩ = some (.string (strOf n1.text)) := by
  unfold NodeW at h
  obtain ⟨kv, nv, cs, hv, h1, h2, h3⟩ := h
  simp only [Value.agg.injEq, Array.mk.injEq, List.cons.injEq, and_true] at hv
  obtain ⟨rfl, rfl, rfl, rfl⟩ := hv
  rcases h2 with ⟨_, h0, _⟩ | ⟨g, cap, rfl, hg, hl, hc⟩
  · cases h0
  · obtain ⟨_, b1, _, _, _, e1, _, _, x1⟩ := KidsW.at _ cs 0 n1 h3 rfl
    have y1 := node_textJ x1
    subst y1
    exact ⟨g, cap, rfl, hl, hc _ _ e1⟩
set_option maxRecDepth 100000 in
set_option maxHeartbeats 4000000 in
theorem awake10_any (w : World) :
    Calls Try.prog 12 #[] w fun e w' => e = .returned (.bool true) ∧ Below w.heap.size w w' := by
  have T1 := Lib.hid (fun w => jtokens ⟨#[123, 34, 97, 34, 58, 91, 49, 93, 125]⟩ w (by decide))
  rw [awk_toks] at T1
  have P1 := Lib.hid (fun w => jparse_any ⟨#[91, 49, 44, 93]⟩ w (by decide))
  rw [awk_1] at P1
  have P1' : Hid (∀ w, Calls Try.prog 13 #[.string ⟨#[91, 49, 44, 93]⟩] w fun e w' => e = .returned (.tuple #[.agg #[.int .u8 0, .string ⟨#[]⟩, .slice none 0 0, .slice none 0 0], .int .i64 7]) ∧ Below w.heap.size w w') := P1
  have P2 := Lib.hid (fun w => jparse_any ⟨#[48, 49]⟩ w (by decide))
  rw [awk_2] at P2
  have P2' : Hid (∀ w, Calls Try.prog 13 #[.string ⟨#[48, 49]⟩] w fun e w' => e = .returned (.tuple #[.agg #[.int .u8 0, .string ⟨#[]⟩, .slice none 0 0, .slice none 0 0], .int .i64 7]) ∧ Below w.heap.size w w') := P2
  have P3 := Lib.hid (fun w => jparse_any ⟨#[91, 34, 92, 117, 48, 48, 52, 49, 34, 44, 32, 110, 117, 108, 108, 93]⟩ w (by decide))
  rw [awk_3] at P3
  have P3' : Hid (∀ w, Calls Try.prog 13 #[.string ⟨#[91, 34, 92, 117, 48, 48, 52, 49, 34, 44, 32, 110, 117, 108, 108, 93]⟩] w fun e w' => (∃ a b c d, e = .returned (.tuple #[.agg #[a, b, c, d], .int .i64 0]) ∧ NodeW w' (fun g => w.heap.size ≤ g) (.mk 91 [] [] [.mk 34 [65] [] [], .mk 97 tNull [] []]) (.agg #[a, b, c, d])) ∧ Below w.heap.size w w') := P3
  clear P1 P2 P3
  go_enter Try.func12, Try.ntmps12
  go_wp2_with fail
  refine (T1.out _).mono ?_
  rintro e w1 ⟨⟨v, rfl, hown⟩, b1⟩
  obtain ⟨ao, cap, rfl, hcap, hT⟩ := tok_rowJ hown
  obtain ⟨g, rfl, hg, c0, c1, c2, c3⟩ := tok_facts4 (j := 1) hT rfl
  clear hown hT T1
  go_wp2_with fail
  refine (P1'.out _).mono ?_
  rintro e w2 ⟨rfl, b2⟩
  have b12 := b1.trans (b2.mono b1.size)
  have b2a := b2.alloc b2.size (.cells #[.int .u8 0, .string ⟨#[]⟩, .slice none 0 0, .slice none 0 0] 39)
  go_wp2_with fail
  refine (P2'.out _).mono ?_
  rintro e w3 ⟨rfl, b3⟩
  have b3a := (b2a.trans (b3.mono b2a.size)).alloc (by have := b2a.size; have := b3.size; omega) (.cells #[.int .u8 0, .string ⟨#[]⟩, .slice none 0 0, .slice none 0 0] 39)
  clear b2 b2a b3 b12
  go_wp2_with fail
  refine (P3'.out _).mono ?_
  rintro e w4 ⟨⟨a, x, kv, d, rfl, hn⟩, b4⟩
  have b4a := b3a.trans (b4.mono b3a.size)
  obtain ⟨u1, u2, u3, u4, u5, u6, u7, u8, rfl, rfl, rfl, rfl⟩ := node_shape hn
  obtain ⟨g2, k2, he, hg2, d1⟩ := node_first hn
  simp only [Value.slice.injEq] at he
  obtain ⟨rfl, rfl, rfl⟩ := he
  clear hn b3a b4
  have hN5 := Blk.new w4 39 #[.int .u8 u1, .string u2, .slice u3 u4 u5, .slice (some ⟨g2, 0, none⟩) 2 u8]
  have b5 := b4a.alloc b4a.size (.cells #[.int .u8 u1, .string u2, .slice u3 u4 u5, .slice (some ⟨g2, 0, none⟩) 2 u8] 39)
  have HBf := Lib.hid (b1.trans (b5.mono b1.size))
  have x0 : (w4.alloc (.cells #[.int .u8 u1, .string u2, .slice u3 u4 u5, .slice (some ⟨g2, 0, none⟩) 2 u8] 39)).cell? ⟨g, 4, none⟩ = some (.int .u8 34) := (b5.cell (p := ⟨g, 4, none⟩) hg).trans c0
  have x1 : (w4.alloc (.cells #[.int .u8 u1, .string u2, .slice u3 u4 u5, .slice (some ⟨g2, 0, none⟩) 2 u8] 39)).cell? ⟨g, 5, none⟩ = some (.string ⟨#[97]⟩) := (b5.cell (p := ⟨g, 5, none⟩) hg).trans c1
  have x2 : (w4.alloc (.cells #[.int .u8 u1, .string u2, .slice u3 u4 u5, .slice (some ⟨g2, 0, none⟩) 2 u8] 39)).cell? ⟨g, 6, none⟩ = some (.int .i64 1) := (b5.cell (p := ⟨g, 6, none⟩) hg).trans c2
  have x3 : (w4.alloc (.cells #[.int .u8 u1, .string u2, .slice u3 u4 u5, .slice (some ⟨g2, 0, none⟩) 2 u8] 39)).cell? ⟨g, 7, none⟩ = some (.int .i64 4) := (b5.cell (p := ⟨g, 7, none⟩) hg).trans c3
  have y1 : (w4.alloc (.cells #[.int .u8 u1, .string u2, .slice u3 u4 u5, .slice (some ⟨g2, 0, none⟩) 2 u8] 39)).cell? ⟨g2, 1, none⟩ = some (.string ⟨#[65]⟩) := (((Below.refl w4.heap.size w4).alloc (Nat.le_refl _) _).cell (p := ⟨g2, 1, none⟩) hg2).trans d1
  have n3 := hN5.cell 3
  clear b1 b5 b4a c0 c1 c2 c3 d1 hN5 hcap P1' P2' P3' hg hg2
  go_upto_region 5 with fail
  generalize w4.alloc (.cells #[.int .u8 u1, .string u2, .slice u3 u4 u5, .slice (some ⟨g2, 0, none⟩) 2 u8] 39) = W5 at *
  go_wp2_with fail
  go_ret
  exact ⟨rfl, HBf.out⟩
end Go.Proofs.Ytjnmcadfaombjaa

/- Walks: the law JsonTokens (chapter 10). -/
namespace Go.Proofs.Ytjnmcadfaombjaa
open Go.RowKit
set_option linter.unusedVariables false
set_option linter.unusedSimpArgs false
def Rising (l : List UInt8) : Nat → List Tok → Prop
  | _, [] => True
  | k, t :: r => k ≤ t.frm ∧ t.frm < t.to ∧ t.to ≤ l.length ∧ (∀ j, k ≤ j → j < t.frm → blankK (bt l j)) ∧ Rising l t.to r
theorem toksF_rise : ∀ (f : Nat) (l : List UInt8) (k : Nat) (ts : List Tok), toksF f l k = some ts → Rising l k ts
  | 0, l, k, ts, h => by unfold toksF at h; cases h; trivial
  | f + 1, l, k, ts, h => by
    unfold toksF at h
    split at h
    · cases h; trivial
    · split at h
      · rename_i h1 hb
        have hr := toksF_rise f l (k + 1) ts h
        cases ts with
        | nil => trivial
        | cons t r =>
          obtain ⟨a, b, c, d, e⟩ := hr
          refine ⟨by omega, b, c, fun j hj1 hj2 => ?_, e⟩
          by_cases hj : j = k
          · subst hj; exact hb
          · exact d j (by omega) hj2
      · split at h
        · cases h
        · rename_i h1 h2 t ho
          have hb := oneT_bd (by omega) ho
          cases hr : toksF f l t.to with
          | none => rw [hr] at h; cases h
          | some r =>
            rw [hr] at h
            cases h
            exact ⟨by omega, by omega, hb.2.2.1, fun j hj1 hj2 => by omega, toksF_rise f l t.to r hr⟩
def few10 (s : ByteArray) : ByteArray := s.extract 0 (min s.size 300)
theorem few10_size (s : ByteArray) : (few10 s).size ≤ 300 := by unfold few10; rw [ByteArray.size_extract]; omega
theorem few10_any (s : ByteArray) (w : World) (hs : s.size ≤ 9223372036854775807) :
    Calls Try.prog 8 #[.string s] w fun e w' => e = .returned (.string (few10 s)) ∧ w = w' := by
  have HF : Hid (few10 s = s.extract 0 (min (s.size : Int) 300).toNat) := by
    show _ = _
    unfold few10; congr 1; omega
  go_enter Try.func8, Try.ntmps8
  go_wp2
  go_ret
  exact ⟨by rw [HF.out]; rfl, rfl⟩
set_option maxRecDepth 100000 in
set_option maxHeartbeats 8000000 in
theorem lawTokens (s : ByteArray) (w : World) (hs : s.size ≤ 9223372036854775807) :
    Calls Try.prog 3 #[.string s] w fun e w' => e = .returned (.bool true) ∧ Below w.heap.size w w' := by
  have hz := few10_size s
  have HF := Lib.hid (fun w => few10_any s w hs)
  generalize few10 s = t at *
  have HN := Lib.hid (fun w => jtokens t w (by omega))
  have HR := Lib.hid (fun w => rtokens_any t w (by omega))
  have HA := Lib.hid awake10_any
  have hl := Lib.hid (sz_len t)
  cases htk : toks t.data.toList with
  | none =>
    rw [htk] at HN HR
    have HN2 : Hid (∀ w, Calls Try.prog 9 #[.string t] w fun e w' => e = .returned (.tuple #[.slice none 0 0, .int .i64 7]) ∧ Below w.heap.size w w') := HN
    have HR2 : Hid (∀ w, Calls Try.prog 10 #[.string t] w fun e w' => e = .returned (.tuple #[.slice none 0 0, .int .i64 7]) ∧ Below w.heap.size w w') := HR
    clear HN HR htk
    go_enter Try.func3, Try.ntmps3
    go_wp2_with fail
    refine (HF.out _).mono ?_
    rintro e w2 ⟨rfl, rfl⟩
    go_wp2_with fail
    refine (HN2.out _).mono ?_
    rintro e w3 ⟨rfl, b3⟩
    go_wp2_with fail
    refine (HR2.out _).mono ?_
    rintro e w4 ⟨rfl, b4⟩
    have b34 := b3.trans (b4.mono b3.size)
    clear b3 b4
    go_wp2_with fail
    go_loopw [7, 8] (fun a z wr => z = .int .i64 0 ∧ Below w.heap.size w wr) (fun _ _ _ => 0)
    case atStart => exact ⟨rfl, b34⟩
    case round =>
      obtain ⟨rfl, hb⟩ := hrel
      go_wp2_with fail
      refine (HA.out _).mono ?_
      rintro e w5 ⟨rfl, b5⟩
      go_wp2_with fail
      go_ret
      exact ⟨rfl, hb.trans (b5.mono hb.size)⟩
  | some ts =>
    have hri := toksF_rise _ _ _ _ htk
    have hlen := toks_len htk
    rw [htk] at HN HR
    have HN2 : Hid (∀ w, Calls Try.prog 9 #[.string t] w fun e w' => (∃ v, e = .returned (.tuple #[v, .int .i64 0]) ∧ w'.ownsRow w.heap.size 31 4 v ts.length (tokCs ts)) ∧ Below w.heap.size w w') := HN
    have HR2 : Hid (∀ w, Calls Try.prog 10 #[.string t] w fun e w' => (∃ v, e = .returned (.tuple #[v, .int .i64 0]) ∧ w'.ownsRow w.heap.size 32 4 v ts.length (tokCs ts)) ∧ Below w.heap.size w w') := HR
    clear HN HR htk
    rw [← hl.out] at hlen
    have HRI := Lib.hid hri
    clear hri
    go_enter Try.func3, Try.ntmps3
    go_wp2_with fail
    refine (HF.out _).mono ?_
    rintro e w2 ⟨rfl, rfl⟩
    go_wp2_with fail
    refine (HN2.out _).mono ?_
    rintro e w3 ⟨⟨v, rfl, ho3⟩, b3⟩
    obtain ⟨a1, p1, rfl, _, hT3⟩ := tok_rowJ ho3
    clear ho3
    go_wp2_with fail
    refine (HR2.out _).mono ?_
    rintro e w4 ⟨⟨v, rfl, ho4⟩, b4⟩
    obtain ⟨a2, p2, rfl, hT4⟩ := tok_row ho4
    have HB4 := Lib.hid (b3.trans (b4.mono b3.size))
    have HT3 := Lib.hid ((hT3.below b4 (Nat.le_refl _)).wider b4.size)
    have HT4 := Lib.hid hT4
    have hqn : ((ts.length : Int) != (ts.length : Int)) = false := by simp
    clear ho4 hT3 hT4 b3 b4 HN2 HR2 HF
    go_wp2_with fail
    go_loopw [7, 8] (fun a z wr => ∃ i k : Nat, z = .int .i64 i ∧ a = .int .i64 k ∧ i ≤ ts.length ∧ k ≤ t.size ∧ Rising t.data.toList k (ts.drop i) ∧ Below w4.heap.size w4 wr) (fun _ z _ => ts.length - (intOf z).toNat)
    case atStart => exact ⟨0, 0, rfl, rfl, Nat.zero_le _, Nat.zero_le _, HRI.out, Below.refl _ _⟩
    case round =>
      obtain ⟨i, k, rfl, rfl, hi, hk, hr, hb⟩ := hrel
      have HB := Lib.hid hb
      clear hb
      by_cases hlt : i < ts.length
      · obtain ⟨u, hu⟩ : ∃ u, ts[i]? = some u := ⟨_, List.getElem?_eq_getElem hlt⟩
        obtain ⟨g1, rfl, hg1, c0, c1, c2, c3⟩ := tok_facts4 (HT3.out.below HB.out (Nat.le_refl _)) hu
        obtain ⟨g2, rfl, hg2, d0, d1, d2, d3⟩ := tok_facts4 (HT4.out.below HB.out (Nat.le_refl _)) hu
        have hdr : ts.drop i = u :: ts.drop (i + 1) := by rw [List.drop_eq_getElem_cons hlt]; rw [List.getElem?_eq_getElem hlt] at hu; rw [Option.some.inj hu]
        rw [hdr] at hr
        obtain ⟨r1, r2, r3, r4, r5⟩ := hr
        rw [← hl.out] at r3
        obtain ⟨uk, ux, uf, ut⟩ := u
        dsimp only at *
        have HR4 := Lib.hid r4
        have HR5 := Lib.hid r5
        have q1 : ((uk : Int) != (uk : Int)) = false := by simp
        have q2 : ((strOf ux).toList == (strOf ux).toList) = true := by simp
        have q3 : ((uf : Int) != (uf : Int)) = false := by simp
        have q4 : ((ut : Int) != (ut : Int)) = false := by simp
        clear hu hdr r4 r5 hqn
        generalize strOf ux = x at *
        go_wp2_with fail
        go_cut [118] (fun v wx => v = .bool false ∧ wr.drew = wx)
        case first =>
          have K1 : wr.drew.cell? ⟨g1, i * 4, none⟩ = some (.int .u8 uk) ∧ wr.drew.cell? ⟨g1, i * 4 + 1, none⟩ = some (.string x) ∧ wr.drew.cell? ⟨g1, i * 4 + 2, none⟩ = some (.int .i64 uf) ∧ wr.drew.cell? ⟨g1, i * 4 + 3, none⟩ = some (.int .i64 ut) ∧ wr.drew.cell? ⟨g2, i * 4, none⟩ = some (.int .u8 uk) ∧ wr.drew.cell? ⟨g2, i * 4 + 1, none⟩ = some (.string x) ∧ wr.drew.cell? ⟨g2, i * 4 + 2, none⟩ = some (.int .i64 uf) ∧ wr.drew.cell? ⟨g2, i * 4 + 3, none⟩ = some (.int .i64 ut) := ⟨c0, c1, c2, c3, d0, d1, d2, d3⟩
          have z1 : decide (uf < k) = false := decide_eq_false (by omega)
          have z2 : decide (ut ≤ uf) = false := decide_eq_false (by omega)
          have z3 : decide (t.size < ut) = false := decide_eq_false (by omega)
          simp only [List.append_eq, List.cons_append, List.nil_append]
          go_region_held3 (fun w' => w'.cell? ⟨g1, i * 4, none⟩ = some (.int .u8 uk) ∧ w'.cell? ⟨g1, i * 4 + 1, none⟩ = some (.string x) ∧ w'.cell? ⟨g1, i * 4 + 2, none⟩ = some (.int .i64 uf) ∧ w'.cell? ⟨g1, i * 4 + 3, none⟩ = some (.int .i64 ut) ∧ w'.cell? ⟨g2, i * 4, none⟩ = some (.int .u8 uk) ∧ w'.cell? ⟨g2, i * 4 + 1, none⟩ = some (.string x) ∧ w'.cell? ⟨g2, i * 4 + 2, none⟩ = some (.int .i64 uf) ∧ w'.cell? ⟨g2, i * 4 + 3, none⟩ = some (.int .i64 ut)) (with_reducible exact K1) (fail)
          go_wp2_with fail
          go_meet
          exact ⟨rfl, rfl⟩
        case rest =>
        obtain ⟨rfl, rfl⟩ := hcut
        have HB2 := Lib.hid (below_drew' HB.out)
        have e2 : wr.drew.cell? ⟨g1, i * 4 + 2, none⟩ = some (.int .i64 uf) := c2
        have e3 : wr.drew.cell? ⟨g1, i * 4 + 3, none⟩ = some (.int .i64 ut) := c3
        clear c0 c1 c2 c3 d0 d1 d2 d3 q1 q2 q3 q4 HT3 HT4
        generalize wr.drew = W1 at *
        go_wp2_with fail
        go_loopw [7] (fun a wx => ∃ m : Nat, a = .int .i64 m ∧ k ≤ m ∧ m ≤ uf ∧ W1 = wx) (fun a _ => 1000 - (intOf a).toNat)
        case atStart => exact ⟨k, rfl, Nat.le_refl _, r1, rfl⟩
        case round =>
          obtain ⟨m, rfl, hkm, hmu, rfl⟩ := hrel
          by_cases hm : m < uf
          · have hmt : m < t.size := by omega
            have hx := bt_byte t m hmt
            have y0 := bt_lt t.data.toList m
            have HBl := Lib.hid (fun w => rblank_any (bt t.data.toList m) w y0)
            rw [decide_eq_true (HR4.out m hkm hm)] at HBl
            generalize bt t.data.toList m = c at *
            go_wp2_with fail
            refine (HBl.out _).mono ?_
            rintro e w' ⟨rfl, rfl⟩
            go_wp2_with fail
            go_roundw
            case rel => exact ⟨m + 1, by go_num, by omega, hm, by trivial⟩
            case measure => simp [intOf]; omega
          · obtain rfl : m = uf := by omega
            go_wp2_with fail
            go_roundw
            case rel => exact ⟨i + 1, ut, by go_num, rfl, hlt, r3, HR5.out, HB2.out⟩
            case measure => simp [intOf]; omega
      · go_wp2_with fail
        refine (HA.out _).mono ?_
        rintro e w5 ⟨rfl, b5⟩
        go_wp2_with fail
        go_ret
        exact ⟨rfl, (HB4.out.trans (HB.out.mono HB4.out.size)).trans (b5.mono (Nat.le_trans HB4.out.size HB.out.size))⟩
end Go.Proofs.Ytjnmcadfaombjaa
