/- Walks: the law ChatHolds (chapter 38). -/
import Derived.Test.YtdmlciebkilmjaaChatW
import Derived.Test.YtdmlciebkilmjaaJsS
namespace Go.Proofs.Ytdmlciebkilmjaa
open Go.RowKit
set_option linter.unusedVariables false
set_option linter.unusedSimpArgs false
theorem TxtR.below {w w' : World} {ks : List (List UInt8)} {v : Value} (h : TxtR w ks v) (hb : Below w.heap.size w w') : TxtR w' ks v := by
  obtain ⟨ao, cap, hv, hc⟩ := h
  refine ⟨ao, cap, hv, fun j u hu => ?_⟩
  obtain ⟨g, h1, h2, h3⟩ := hc j u hu
  exact ⟨g, h1, Nat.lt_of_lt_of_le h2 hb.size, (hb.cell (p := ⟨g, j, none⟩) h2).trans h3⟩
theorem txt_two (w : World) (T : TypeId) (c : Nat) : TxtR (w.alloc (.cells #[.string ⟨#[116, 101, 120, 116]⟩, .string ⟨#[108, 111, 117, 100]⟩] T)) [tText, tLoud] (.slice (some ⟨w.heap.size, 0, none⟩) 2 c) := by
  have h := Blk.new w T #[.string ⟨#[116, 101, 120, 116]⟩, .string ⟨#[108, 111, 117, 100]⟩]
  refine ⟨_, c, rfl, fun j u hu => ⟨_, rfl, h.lt, ?_⟩⟩
  match j, hu with
  | 0, hu => cases hu; exact h.cell 0
  | 1, hu => cases hu; exact h.cell 1
  | j + 2, hu => simp at hu
theorem same_two (kv : Value) (W w5 : World) (T : TypeId) (c : Nat) (hk : TxtR W [tText, tLoud] kv) (hb : Below W.heap.size W w5) :
    Calls Try.prog 16 #[kv, .slice (some ⟨w5.heap.size, 0, none⟩) 2 c] (w5.alloc (.cells #[.string ⟨#[116, 101, 120, 116]⟩, .string ⟨#[108, 111, 117, 100]⟩] T)) fun e w' => e = .returned (.bool true) ∧ Below W.heap.size W w' := by
  have h := rsame_any [tText, tLoud] [tText, tLoud] kv _ _ ((hk.below hb).below ((Below.refl _ _).alloc (Nat.le_refl _) _)) (txt_two w5 T c) (by decide) (by decide)
  refine h.mono ?_
  rintro e w' ⟨rfl, b⟩
  have h2 : Below W.heap.size W (w5.alloc (.cells #[.string ⟨#[116, 101, 120, 116]⟩, .string ⟨#[108, 111, 117, 100]⟩] T)) := hb.alloc hb.size _
  exact ⟨rfl, h2.trans (b.mono h2.size)⟩
/-- What is written of a post, in memory as it is read. -/
theorem node_chat {w : World} {ok : Nat → Prop} {u : List UInt8} {b : Bool} {a x kv d : Value} (h : NodeW w ok (chatN u b) (.agg #[a, x, kv, d])) :
    ∃ (g c2 : Nat), a = .int .u8 123 ∧ x = .string ⟨#[]⟩ ∧ d = .slice (some ⟨g, 0, none⟩) 2 c2 ∧ g < w.heap.size ∧ TxtR w [tText, tLoud] kv ∧
      w.cell? ⟨g, 1, none⟩ = some (.string (strOf u)) ∧ w.cell? ⟨g, 4, none⟩ = some (.int .u8 97) := by
  unfold chatN NodeW at h
  obtain ⟨kv', nv, cs, hv, h1, h2, h3⟩ := h
  simp only [Value.agg.injEq, Array.mk.injEq, List.cons.injEq, and_true] at hv
  obtain ⟨rfl, rfl, rfl, rfl⟩ := hv
  rcases h2 with ⟨_, h0, _⟩ | ⟨g, cap, rfl, hg, hl, hc⟩
  · cases h0
  · obtain ⟨_, b1, _, _, _, e1, _, _, x1⟩ := KidsW.at _ cs 0 _ h3 rfl
    obtain ⟨a2, _, _, _, e2, _, _, _, x2⟩ := KidsW.at _ cs 1 _ h3 rfl
    have y1 := node_text x1
    subst y1
    unfold NodeW at x2
    obtain ⟨_, _, _, hv2, _⟩ := x2
    simp only [Value.agg.injEq, Array.mk.injEq, List.cons.injEq, and_true] at hv2
    obtain ⟨rfl, _⟩ := hv2
    exact ⟨g, cap, rfl, rfl, rfl, hl, TxtR.of h1, hc _ _ e1, hc _ _ e2⟩
set_option maxRecDepth 100000 in
set_option maxHeartbeats 2000000 in
theorem holds_bad (s : ByteArray) (b : Bool) (w : World) (hs : s.size ≤ 9223372036854775807) (hc : clean (few38 s).data.toList ≠ (few38 s).data.toList) :
    Calls Try.prog 5 #[.string s, .bool b] w fun e w' => e = .returned (.bool true) ∧ Below w.heap.size w w' := by
  have hz := few38_size s
  have HF := Lib.hid (fun w => few38_any s w hs)
  generalize few38 s = t at *
  have hcv : chatV t.data.toList b = .tuple #[.string ⟨#[]⟩, .int .i64 7] := by unfold chatV; rw [if_neg hc]
  have HN := Lib.hid (fun w => chat_any t b w (by omega))
  rw [hcv] at HN
  have HC := Lib.hid (fun w => rclean_any t w (by omega))
  have HA := Lib.hid awake38_any
  have hq : ((strOf (clean t.data.toList)).toList == t.toList) = false := by
    rw [strOf_toL]
    simp only [beq_eq_false_iff_ne, ne_eq]
    intro h; apply hc; rw [h, ByteArray.toList_eq]
  clear hc hz hcv
  generalize strOf (clean t.data.toList) = x at *
  go_enter Try.func5, Try.ntmps5
  go_wp2_with fail
  refine (HF.out _).mono ?_
  rintro e w2 ⟨rfl, rfl⟩
  go_wp2_with fail
  refine (HN.out _).mono ?_
  rintro e w3 ⟨rfl, b3⟩
  have hP := Blk.new w 24 #[.string t, .bool b]
  have hB := (Below.refl w.heap.size w).alloc (Nat.le_refl _) (.cells #[.string t, .bool b] 24)
  have hP3 := hP.below b3 hP.lt
  have hB3 := hB.trans (b3.mono hB.size)
  have HP3 := Lib.hid hP3
  have c0 := hP3.cell 0
  clear hP hB b3 hP3
  have K : Hid (∀ w', Below w3.heap.size w3 w' → w'.cell? ⟨w.heap.size, 0, none⟩ = some (.string t)) := fun w' h => (HP3.out.below h HP3.out.lt).cell 0
  go_wp2_with fail
  go_region_held3 (fun w' => w'.cell? ⟨w.heap.size, 0, none⟩ = some (.string t)) (first | exact K.out _ (Below.refl _ _) | exact K.out _ (Below.refl _ _).drew | exact K.out _ (below_drew b4) | exact K.out _ ((below_drew b4).trans (b5.mono b4.size))) ((first | (go_at_call 14; refine (HC.out _).mono ?_; rintro e w4 ⟨rfl, b4⟩) | (go_at_call 11; refine (HA.out _).mono ?_; rintro e w5 ⟨rfl, b5⟩)))
  go_wp2_with fail
  go_ret
  exact ⟨rfl, hB3.trans (((below_drew b4).trans (b5.mono b4.size)).mono hB3.size)⟩
set_option maxRecDepth 100000 in
set_option maxHeartbeats 8000000 in
theorem holds_ok (s : ByteArray) (b : Bool) (w : World) (hs : s.size ≤ 9223372036854775807) (hc : clean (few38 s).data.toList = (few38 s).data.toList) :
    Calls Try.prog 5 #[.string s, .bool b] w fun e w' => e = .returned (.bool true) ∧ Below w.heap.size w w' := by
  have hz := few38_size s
  have HF := Lib.hid (fun w => few38_any s w hs)
  generalize few38 s = t at *
  have hcv : chatV t.data.toList b = .tuple #[.string (strOf (chatL t.data.toList b)), .int .i64 0] := by unfold chatV; rw [if_pos hc]
  have hsz := chatL_size t.data.toList b
  have hlen : t.data.toList.length ≤ 4000 := by have := sz_len t; omega
  have hcut : cutL t.data.toList 4000 = t.data.toList := by unfold cutL; rw [if_pos hlen]
  have htt : strOf t.data.toList = t := by cases t; simp [strOf]
  have hg := (cut_clean hc).2
  rw [hcut] at hg
  have hpj : parseJ (strOf (chatL t.data.toList b)).data.toList = .ok (chatN t.data.toList b) := by
    rw [strOf_list]
    have := chat_parse (joined_good _ _ (Nat.le_refl _) hg) b
    unfold chatL; rw [hcut]; exact this
  have hrd : chatRd (strOf (chatL t.data.toList b)).data.toList = some (t.data.toList, b) := by
    rw [strOf_list]
    have := chat_back hc b
    rwa [hcut] at this
  have HN := Lib.hid (fun w => chat_any t b w (by omega))
  rw [hcv] at HN
  have HPa := Lib.hid (fun w => rparse_any (strOf (chatL t.data.toList b)) w (by omega))
  rw [hpj] at HPa
  have HP : Hid (∀ w, Calls Try.prog 15 #[.string (strOf (chatL t.data.toList b))] w fun e w' => (∃ a x kv d, e = .returned (.tuple #[.agg #[a, x, kv, d], .int .i64 0]) ∧ NodeW w' (fun g => w.heap.size ≤ g) (chatN t.data.toList b) (.agg #[a, x, kv, d])) ∧ Below w.heap.size w w') := HPa
  have HRa := Lib.hid (fun w => chatRead_any (strOf (chatL t.data.toList b)) w (by omega))
  rw [hrd] at HRa
  have HR : Hid (∀ w, Calls Try.prog 12 #[.string (strOf (chatL t.data.toList b))] w fun e w' => e = .returned (.tuple #[.agg #[.string t, .bool b], .int .i64 0]) ∧ Below w.heap.size w w') := fun w => by
    have := HRa.out w
    unfold chatRV at this
    dsimp only at this
    rw [htt] at this
    exact this
  have HA := Lib.hid awake38_any
  have q1 : (t.toList == t.toList) = true := by simp
  have q2 : (b == b) = true := by simp
  have HT := Lib.hid htt
  clear hc hz hcv hsz hlen hcut htt hg hpj hrd HPa HRa
  generalize strOf (chatL t.data.toList b) = y at *
  have HS := Lib.hid same_two
  go_enter Try.func5, Try.ntmps5
  go_wp2_with fail
  refine (HF.out _).mono ?_
  rintro e w2 ⟨rfl, rfl⟩
  go_wp2_with fail
  refine (HN.out _).mono ?_
  rintro e w3 ⟨rfl, b3⟩
  have hP := Blk.new w 24 #[.string t, .bool b]
  have hB := (Below.refl w.heap.size w).alloc (Nat.le_refl _) (.cells #[.string t, .bool b] 24)
  have hP3 := hP.below b3 hP.lt
  have hB3 := hB.trans (b3.mono hB.size)
  clear hP hB b3
  go_wp2_with fail
  refine (HP.out _).mono ?_
  rintro e w4 ⟨⟨a, x, kv, d, rfl, hn⟩, b4⟩
  obtain ⟨g, c2, rfl, rfl, rfl, hgl, hk, y1, y4⟩ := node_chat hn
  obtain ⟨o1, p1, rfl, hk2⟩ : ∃ ao cap, kv = .slice ao 2 cap ∧ TxtR w4 [tText, tLoud] (.slice ao 2 cap) := by
    obtain ⟨ao, cap, hv, hcc⟩ := hk
    exact ⟨ao, cap, hv, ao, cap, rfl, hcc⟩
  rw [HT.out] at y1
  have hP4 := hP3.below b4 hP3.lt
  have hB4 := hB3.trans (b4.mono hB3.size)
  clear hn hk hP3 hB3 b4
  go_wp2_with fail
  refine (HR.out _).mono ?_
  rintro e w5 ⟨rfl, b5⟩
  have hN := Blk.new w4 37 #[.int .u8 123, .string ⟨#[]⟩, .slice o1 2 p1, .slice (some ⟨g, 0, none⟩) 2 c2]
  have hP5 := (hP4.alloc (.cells #[.int .u8 123, .string ⟨#[]⟩, .slice o1 2 p1, .slice (some ⟨g, 0, none⟩) 2 c2] 37)).below b5 (by have := hP4.lt; simp; omega)
  have hB5 := (hB4.alloc hB4.size (.cells #[.int .u8 123, .string ⟨#[]⟩, .slice o1 2 p1, .slice (some ⟨g, 0, none⟩) 2 c2] 37)).trans (b5.mono (by have := hB4.size; simp; omega))
  have b45 : Below w4.heap.size w4 w5 := ((Below.refl w4.heap.size w4).alloc (Nat.le_refl _) (.cells #[.int .u8 123, .string ⟨#[]⟩, .slice o1 2 p1, .slice (some ⟨g, 0, none⟩) 2 c2] 37)).trans (b5.mono (by simp))
  have hN5 := hN.below b5 hN.lt
  have z1 := (b45.cell (p := ⟨g, 1, none⟩) hgl).trans y1
  have z4 := (b45.cell (p := ⟨g, 4, none⟩) hgl).trans y4
  have hk5 := hk2.below b45
  have hgl5 : g < w5.heap.size := Nat.lt_of_lt_of_le hgl b45.size
  clear hP4 hB4 hN y1 y4 b5 hk2 hgl b45
  go_upto_region 7 with fail
  have HQ := Lib.hid (Blk.new w5 24 #[.string t, .bool b])
  have b5W := (Below.refl w5.heap.size w5).alloc (Nat.le_refl _) (.cells #[.string t, .bool b] 24)
  have HPW := Lib.hid (hP5.alloc (.cells #[.string t, .bool b] 24))
  have HNW := Lib.hid (hN5.alloc (.cells #[.string t, .bool b] 24))
  have z1W := (b5W.cell (p := ⟨g, 1, none⟩) hgl5).trans z1
  have z4W := (b5W.cell (p := ⟨g, 4, none⟩) hgl5).trans z4
  have HkW := Lib.hid (hk5.below b5W)
  have HBW := Lib.hid (hB5.alloc hB5.size (.cells #[.string t, .bool b] 24))
  have hgW : g < (w5.alloc (.cells #[.string t, .bool b] 24)).heap.size := Nat.lt_of_lt_of_le hgl5 b5W.size
  generalize w5.alloc (.cells #[.string t, .bool b] 24) = W at *
  clear hP5 hB5 hN5 z1 z4 hk5 hgl5 b5W HN HP HR HF
  have K : Hid (∀ w', Below W.heap.size W w' → w'.cell? ⟨w.heap.size, 0, none⟩ = some (.string t) ∧ w'.cell? ⟨w.heap.size, 1, none⟩ = some (.bool b) ∧ w'.cell? ⟨w5.heap.size, 0, none⟩ = some (.string t) ∧ w'.cell? ⟨w5.heap.size, 1, none⟩ = some (.bool b) ∧ w'.cell? ⟨w4.heap.size, 0, none⟩ = some (.int .u8 123) ∧ w'.cell? ⟨w4.heap.size, 2, none⟩ = some (.slice o1 2 p1) ∧ w'.cell? ⟨w4.heap.size, 3, none⟩ = some (.slice (some ⟨g, 0, none⟩) 2 c2) ∧ w'.cell? ⟨g, 1, none⟩ = some (.string t) ∧ w'.cell? ⟨g, 4, none⟩ = some (.int .u8 97)) := fun w' h => ⟨(HPW.out.below h HPW.out.lt).cell 0, (HPW.out.below h HPW.out.lt).cell 1, (HQ.out.below h HQ.out.lt).cell 0, (HQ.out.below h HQ.out.lt).cell 1, (HNW.out.below h HNW.out.lt).cell 0, (HNW.out.below h HNW.out.lt).cell 2, (HNW.out.below h HNW.out.lt).cell 3, (h.cell (p := ⟨g, 1, none⟩) hgW).trans z1W, (h.cell (p := ⟨g, 4, none⟩) hgW).trans z4W⟩
  clear z1W z4W hgW
  go_region_held3 (fun w' => w'.cell? ⟨w.heap.size, 0, none⟩ = some (.string t) ∧ w'.cell? ⟨w.heap.size, 1, none⟩ = some (.bool b) ∧ w'.cell? ⟨w5.heap.size, 0, none⟩ = some (.string t) ∧ w'.cell? ⟨w5.heap.size, 1, none⟩ = some (.bool b) ∧ w'.cell? ⟨w4.heap.size, 0, none⟩ = some (.int .u8 123) ∧ w'.cell? ⟨w4.heap.size, 2, none⟩ = some (.slice o1 2 p1) ∧ w'.cell? ⟨w4.heap.size, 3, none⟩ = some (.slice (some ⟨g, 0, none⟩) 2 c2) ∧ w'.cell? ⟨g, 1, none⟩ = some (.string t) ∧ w'.cell? ⟨g, 4, none⟩ = some (.int .u8 97)) (first | exact K.out _ (Below.refl _ _) | exact K.out _ (below_drew' (Below.refl _ _)) | exact K.out _ ((below_drew' (Below.refl _ _)).alloc (Nat.le_refl _) _) | exact K.out _ b6 | exact K.out _ (b6.trans (b7.mono b6.size))) ((first | (go_at_call 16; refine (HS.out _ W W.drew _ _ HkW.out (below_drew' (Below.refl _ _))).mono ?_; rintro e w6 ⟨rfl, b6⟩) | (go_at_call 11; refine (HA.out _).mono ?_; rintro e w7 ⟨rfl, b7⟩)))
  go_wp2_with fail
  go_ret
  exact ⟨rfl, HBW.out.trans ((b6.trans (b7.mono b6.size)).mono HBW.out.size)⟩
theorem lawHolds (s : ByteArray) (b : Bool) (w : World) (hs : s.size ≤ 9223372036854775807) :
    Calls Try.prog 5 #[.string s, .bool b] w fun e w' => e = .returned (.bool true) ∧ Below w.heap.size w w' := by
  by_cases hc : clean (few38 s).data.toList = (few38 s).data.toList
  · exact holds_ok s b w hs hc
  · exact holds_bad s b w hs hc
end Go.Proofs.Ytdmlciebkilmjaa
