/- Walks: the program's Read. -/
import Derived.Test.YtdfnlcigbmiafaaQuoH
namespace Go.Proofs.Ytdfnlcigbmiafaa
open Go.RowKit Go.Shelf
set_option linter.unusedVariables false
set_option linter.unusedSimpArgs false
attribute [local go_sem] Oper.semAt_some
theorem jall_any (s : ByteArray) (w : World) :
    Calls Try.prog 68 #[.string s] w fun e w' => e = .returned (.func (.func 85) #[] #[.pointer (some ⟨w.heap.size, 0, none⟩)]) ∧ w.alloc (.cells #[.string s] 9) = w' := by
  go_enter Try.func68, Try.ntmps68
  go_wp2
  go_ret
  exact ⟨rfl, rfl⟩
theorem jall_stops (n b : Nat) (s : ByteArray) (w : World) (hn : 1 ≤ n) (hs : s.size ≤ 1000000) (hw : b < w.heap.size) (hc : w.cell? ⟨b, 0, none⟩ = some (.string s)) :
    SeqStopsK Fence.wide n Try.prog 85 #[.pointer (some ⟨b, 0, none⟩)] itmV (KB b) (fun xs => xs = itms s.data.toList) (fun pre => pre <+: itms s.data.toList) (itms s.data.toList).length w :=
  fun l J Jx W hW hA _ hY h0 => jall1_in n l b s hn hs J Jx W hA hY ((hW.cell (p := ⟨b, 0, none⟩) hw).trans hc) h0
theorem itmV_size (x : Itm) : (itmV x).size = 1 := rfl
def joinI (pre : List Itm) : List UInt8 := pre.flatMap fun x => enc x.v
theorem joinI_snoc (pre : List Itm) (x : Itm) : joinI (pre ++ [x]) = joinI pre ++ enc x.v := by unfold joinI; rw [List.flatMap_append]; simp
theorem joinI_length (pre : List Itm) : (joinI pre).length ≤ 4 * pre.length := by
  unfold joinI
  induction pre with
  | nil => simp
  | cons x t ih => rw [List.flatMap_cons, List.length_append, List.length_cons]; have := (enc_length x.v).1; omega
def ReadI (B : Nat) (pre : List Itm) (W : World) : Prop :=
  ((Blk W B 9 #[.string ⟨#[]⟩] ∧ Blk W (B + 1) 25 #[.int .i64 0]) ∧ Build (B + 4) (B + 2) (joinI pre) W) ∧ (B + 4 ≤ W.heap.size ∧ ∀ x ∈ pre, 0 ≤ x.v)
def ReadX (B : Nat) (c : Code) (pre : List Itm) (W : World) : Prop :=
  (Blk W B 9 #[.string ⟨#[]⟩] ∧ Blk W (B + 1) 25 #[.int .i64 7]) ∧ (c = .ret ∧ ∃ x ∈ pre, x.v < 0)
theorem readI_own (B n : Nat) : OwnFrom n (ReadI B) := fun pre W W' row ⟨⟨⟨a, b⟩, c⟩, d, e⟩ hg hr =>
  ⟨⟨⟨a.kept hg (fun r e => (hr r e).2), b.kept hg (fun r e => (hr r e).2)⟩, build_kept c hg (fun r e => (hr r e).2)⟩, Nat.le_trans d hg.size, e⟩
theorem readX_own (B n : Nat) (c : Code) : OwnFrom n (ReadX B c) := fun pre W W' row ⟨⟨a, b⟩, d⟩ hg hr =>
  ⟨⟨a.kept hg (fun r e => (hr r e).2), b.kept hg (fun r e => (hr r e).2)⟩, d⟩
def ReadN (w : World) (x : Itm) (pre : List Itm) (W w3 : World) : Prop :=
  KeepsOthers W w3 ∧ KB (w.heap.size + 3) W w3 ∧ ReadI w.heap.size (pre ++ [x]) w3 ∧ Below w.heap.size w w3
theorem read_write_in (w W w2 : World) (pre : List Itm) (x : Itm) (hI : ReadI w.heap.size pre W) (hB : Below w.heap.size w W) (hN : pre.length < 1000000) (h0 : 0 ≤ x.v)
    (b2 : Below W.heap.size W w2) :
    Calls Try.prog 33 #[.pointer (some ⟨w.heap.size + 2, 0, none⟩), .string (strOf (enc x.v))] w2 fun e w3 => e = .returned (.tuple #[.int .i64 (strOf (enc x.v)).size, .nilIface]) ∧
      ReadN w x pre W w3 := by
  obtain ⟨⟨⟨hS, hT⟩, hU⟩, hsz, hall⟩ := hI
  have hz2 := b2.size
  have hl := joinI_length pre
  have he := (enc_length x.v).1
  refine (writeString_any _ _ _ (strOf (enc x.v)) w2 (build_below hU b2) (by omega) (by rw [strOf_size]; omega)).mono ?_
  rintro e w3 ⟨he, hU3, b3⟩
  rw [strOf_list, ← joinI_snoc] at hU3
  refine ⟨he, (keepsOthers_below b2).trans b3.keep, ?_, ⟨⟨⟨?_, ?_⟩, hU3⟩, ?_, ?_⟩, ?_⟩
  · exact (b3.block _ (by omega) (by omega)).trans (b2.block _ (by omega))
  · exact (hS.below b2 (by omega)).bnd b3 (by omega) (by omega)
  · exact (hT.below b2 (by omega)).bnd b3 (by omega) (by omega)
  · have := b3.size; omega
  · intro y hy
    rcases List.mem_append.1 hy with h | h
    · exact hall y h
    · rw [List.mem_singleton] at h; subst h; exact h0
  · exact (hB.trans (b2.mono (by omega))).trans (b3.below (by omega) (by omega))
set_option maxRecDepth 100000 in
set_option maxHeartbeats 2000000 in
theorem read_in (n : Nat) (hn : 3 ≤ n) (s : ByteArray) (w : World) (hs : s.size ≤ 1000000) :
    CallsIn Fence.wide n Try.prog 50 #[.string s] w fun e W' => e = .returned (readV (readJ s.data.toList)) ∧ Below w.heap.size w W' := by
  have h1 : 1 ≤ n := by omega
  have Hlen := Lib.hid (itms_length _ s.data.toList (Nat.le_refl _))
  have Hsl := Lib.hid (sz_len s)
  have Hread := Lib.hid (itms_read _ s.data.toList (Nat.le_refl _))
  have HA := Lib.hid (jall_any s)
  refine callsIn_of_wp_marks Try.func50 rfl trivial ?_ rfl
  simp only [Try.ntmps50, List.size_toArray, List.length_cons, List.length_nil, Nat.reduceAdd, Nat.reduceSub, Array.replicate_succ, Array.replicate_zero, List.push_toArray, List.append_toArray, List.nil_append, List.cons_append]
  gi_wp2_with (first | (refine ⟨trivial, ?_⟩; gi_at_call 68; refine (callsIn_wide.2 (HA.out _)).mono ?_; rintro e w' ⟨rfl, rfl⟩) | (gi_at_call 68; refine (callsIn_wide.2 (HA.out _)).mono ?_; rintro e w' ⟨rfl, rfl⟩))
  obtain ⟨W0, hW0⟩ : ∃ W0, (((w.alloc (.cells #[.string ⟨#[]⟩] 9)).alloc (.cells #[.int .i64 0] 25)).alloc (.cells #[.pointer none, .slice none 0 0] 67)).alloc (.cells #[.string s] 9) = W0 := ⟨_, rfl⟩
  have e1 : w.heap.size + 1 + 1 = w.heap.size + 2 := rfl
  have e2 : w.heap.size + 2 + 1 = w.heap.size + 3 := rfl
  have hb0 : Blk W0 w.heap.size 9 #[.string ⟨#[]⟩] := by rw [← hW0]; exact (((Blk.new w _ _).alloc _).alloc _).alloc _
  have hb1 : Blk W0 (w.heap.size + 1) 25 #[.int .i64 0] := by
    have h0 := ((Blk.new (w.alloc (.cells #[.string ⟨#[]⟩] 9)) 25 #[.int .i64 0]).alloc (.cells #[.pointer none, .slice none 0 0] 67)).alloc (.cells #[.string s] 9)
    rw [World.size_alloc, hW0] at h0
    exact h0
  have hb2 : Build (w.heap.size + 4) (w.heap.size + 2) [] W0 := by
    have h0 := (Blk.new ((w.alloc (.cells #[.string ⟨#[]⟩] 9)).alloc (.cells #[.int .i64 0] 25)) 67 #[.pointer none, .slice none 0 0]).alloc (.cells #[.string s] 9)
    rw [World.size_alloc, World.size_alloc, hW0] at h0
    exact .inl ⟨by omega, _, h0, by simp, .inl ⟨rfl, rfl⟩⟩
  have hb3 : Blk W0 (w.heap.size + 3) 9 #[.string s] := by
    have h0 := Blk.new (((w.alloc (.cells #[.string ⟨#[]⟩] 9)).alloc (.cells #[.int .i64 0] 25)).alloc (.cells #[.pointer none, .slice none 0 0] 67)) 9 #[.string s]
    rw [World.size_alloc, World.size_alloc, World.size_alloc, hW0] at h0
    exact h0
  have hB0 : Below w.heap.size w W0 := by rw [← hW0]; exact ((((Below.refl _ w).alloc (Nat.le_refl _) _).alloc (by simp) _).alloc (by simp; omega) _).alloc (by simp; omega) _
  have hsz : W0.heap.size = w.heap.size + 4 := by rw [← hW0]; simp
  rw [hW0, e1, e2]
  clear hW0 e1 e2
  refine wpIn_rangeFunc_ownF rfl h1 (gf := 85) (lb := #[.pointer (some ⟨w.heap.size + 3, 0, none⟩)]) rfl trivial (enters_of Try.func85 (by kernel_rfl) rfl)
    (jall_stops (n - 1) (w.heap.size + 3) s _ (by omega) hs (by omega) (hb3.cell 0)) KB.t (KB.b (by omega)) (Below.refl _ _) itmV_size
    (fun pre W => ReadI w.heap.size pre W ∧ Below w.heap.size w W)
    (fun c pre W => ReadX w.heap.size c pre W ∧ Below w.heap.size w W)
    (OwnFrom.and (readI_own _ _) (ownFrom_below (Nat.le_refl _) (by omega)))
    (fun c => OwnFrom.and (readX_own _ _ c) (ownFrom_below (Nat.le_refl _) (by omega)))
    ⟨⟨⟨⟨hb0, hb1⟩, hb2⟩, by omega, fun x hx => by cases hx⟩, hB0⟩
    (fun x => { tmps := #[.string s, undef, .pointer (some ⟨w.heap.size, 0, none⟩), .pointer (some ⟨w.heap.size + 1, 0, none⟩), .pointer (some ⟨w.heap.size + 2, 0, none⟩), .int .i32 x.v, .string s, .func (.func 85) #[] #[.pointer (some ⟨w.heap.size + 3, 0, none⟩)], .int .i32 x.v, undef, undef, undef, undef, undef, undef], defers := [] }) ?assign ?body ?done ?stop
  case assign =>
    intro l x W K hK
    unfold itmV
    gi_wp2
    simpa using hK
  case body =>
    rintro l pre x W ⟨hI, hB⟩ hN
    have hN2 : pre.length < 1000000 := by have := Hlen.out; have := Hsl.out; omega
    have hd : 1 ≤ n - 1 - 1 := by omega
    clear hN
    by_cases hv : x.v < 0
    · obtain ⟨⟨⟨hS, hT⟩, hU⟩, hsz', hall⟩ := hI
      have c0 := hS.cell 0
      have f0 := hS.frozen 0
      have c1 := hT.cell 0
      have f1 := hT.frozen 0
      have HV : Hid (∃ y ∈ pre ++ [x], y.v < 0) := ⟨x, by simp, hv⟩
      have c2 : (W.setCell ⟨w.heap.size, 0, none⟩ (.string ⟨#[]⟩)).cell? ⟨w.heap.size + 1, 0, none⟩ = some (.int .i64 0) := (hT.far (p := ⟨w.heap.size, 0, none⟩) (by simp) _).cell 0
      have f2 : (W.setCell ⟨w.heap.size, 0, none⟩ (.string ⟨#[]⟩)).frozen? ⟨w.heap.size + 1, 0, none⟩ = false := (hT.far (p := ⟨w.heap.size, 0, none⟩) (by simp) _).frozen 0
      clear hall hb0 hb1 hb2 hb3 hB0
      gi_wp2
      refine ⟨(KeepsOthers.setCell _ _ _).trans (KeepsOthers.setCell _ _ _), ⟨⟨?_, ?_⟩, rfl, HV.out⟩, (hB.setCell (p := ⟨w.heap.size, 0, none⟩) (Nat.le_refl _) _).setCell (p := ⟨w.heap.size + 1, 0, none⟩) (by simp) _⟩
      · exact ((hS.set_ 0 _).far (p := ⟨w.heap.size + 1, 0, none⟩) (by simp) _)
      · exact ((hT.far (p := ⟨w.heap.size, 0, none⟩) (by simp) _).set_ 0 _)
    · have h0 : 0 ≤ x.v := by omega
      have HW := Lib.hid (fun w2 b2 => read_write_in w W w2 pre x hI hB hN2 h0 b2)
      have hl := (enc_length x.v).1
      obtain ⟨⟨⟨hS, hT⟩, hU⟩, hsz', hall⟩ := hI
      clear hall hb0 hb1 hb2 hb3 hB0 hS hT hU hv
      obtain ⟨v, g0, g1⟩ := x
      dsimp only at *
      gi_wp2_with (first
        | (refine ⟨trivial, ?_⟩; gi_at_call 35; refine (CallsIn.inRound l (callsIn_wide.2 (pbytes_any _ _))).mono ?_; rintro e w2 ⟨rfl, b2⟩)
        | (refine ⟨trivial, ?_⟩; gi_at_call 33; refine (CallsIn.inRound l (callsIn_wide.2 (HW.out _ b2))).mono ?_; rintro e w3 ⟨rfl, b3⟩))
      exact b3
  case done =>
    rintro D ys W hD rfl ⟨⟨⟨⟨hS, hT⟩, hU⟩, hsz', hall⟩, hB⟩ hK
    have HR : Hid (readJ s.data.toList = some (joinI (itms s.data.toList))) := by
      rcases Hread.out with ⟨_, x, hx, hx2⟩ | ⟨_, h⟩
      · have := hall x hx; omega
      · exact h
    have hlt : w.heap.size + 2 ≤ W.heap.size := by omega
    have HU := Lib.hid (builder_String_k _ _ _ W hU hlt)
    clear hU hall
    generalize joinI (itms s.data.toList) = t at *
    gi_wp2_with (refine ⟨trivial, ?_⟩; gi_at_call 36; refine (callsIn_wide.2 HU.out).mono ?_; rintro e w3 ⟨rfl, b3, k3⟩; have hS3 := hS.below b3 (by omega); have hT3 := hT.below b3 (by omega); have c0 := hS3.cell 0; have f0 := hS3.frozen 0; have hT4 := hT3.far (p := ⟨w.heap.size, 0, none⟩) (by simp) (.string ⟨t.toArray⟩); have c1 := hT4.cell 0; have f1 := hT4.frozen 0)
    have hK1 := k3.same D _ hK rfl
    have hK2 := (KeepsOthers.setCell w3 ⟨w.heap.size, 0, none⟩ (.string ⟨t.toArray⟩)).same D _ hK1 rfl
    have hK3 := (KeepsOthers.setCell (w3.setCell ⟨w.heap.size, 0, none⟩ (.string ⟨t.toArray⟩)) ⟨w.heap.size + 1, 0, none⟩ (.int .i64 0)).same D _ hK2 rfl
    refine ⟨by simp, .inl ⟨_, _, rfl, run_takeDeferred hK3, ?_⟩⟩
    have r0 := ((((hS3.set_ 0 (.string ⟨t.toArray⟩)).far (p := ⟨w.heap.size + 1, 0, none⟩) (by simp) (.int .i64 0))).putObj (o' := .deferred none) hK3 rfl).cell 0
    have r1 := ((hT4.set_ 0 (.int .i64 0)).putObj (o' := .deferred none) hK3 rfl).cell 0
    have hBf := (((hB.trans (b3.mono (by omega))).setCell (p := ⟨w.heap.size, 0, none⟩) (Nat.le_refl _) (.string ⟨t.toArray⟩)).setCell (p := ⟨w.heap.size + 1, 0, none⟩) (by simp) (.int .i64 0)).trans (belowK_b (w := w) (Nat.le_refl _) _ D _ (.deferred none) (by omega) hK3 rfl rfl)
    refine ⟨.tuple #[.string ⟨t.toArray⟩, .int .i64 0], ?_, by rw [HR.out]; rfl, hBf⟩
    simp [results, Try.f50, go_sem, r0, r1]
  case stop =>
    rintro D c pre W hD hpre ⟨⟨⟨hS, hT⟩, rfl, x, hx, hx2⟩, hB⟩ hK
    have HR : Hid (readJ s.data.toList = none) := by
      rcases Hread.out with ⟨h, _⟩ | ⟨h, _⟩
      · exact h
      · have := h x (hpre.subset hx); omega
    clear hx hx2
    gi_wp2
    refine ⟨by simp, .inl ⟨_, _, rfl, run_takeDeferred hK, ?_⟩⟩
    have r0 := (hS.putObj (o' := .deferred none) hK rfl).cell 0
    have r1 := (hT.putObj (o' := .deferred none) hK rfl).cell 0
    refine ⟨.tuple #[.string ⟨#[]⟩, .int .i64 7], ?_, by rw [HR.out]; rfl, hB.trans (belowK_b (w := w) (Nat.le_refl _) W D _ _ (by omega) hK rfl rfl)⟩
    simp [results, Try.f50, go_sem, r0, r1]
/-- Read, of any text. -/
theorem read_any (s : ByteArray) (w : World) (hs : s.size ≤ 1000000) :
    Calls Try.prog 50 #[.string s] w fun e W' => e = .returned (readV (readJ s.data.toList)) ∧ Below w.heap.size w W' :=
  callsIn_wide.1 (read_in 3 (Nat.le_refl _) s w hs)
end Go.Proofs.Ytdfnlcigbmiafaa
