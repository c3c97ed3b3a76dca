/- Walks: a post, read. -/
import Derived.Test.YtdmlciebkilmjaaChatC
namespace Go.Proofs.Ytdmlciebkilmjaa
open Go.RowKit
set_option linter.unusedVariables false
set_option linter.unusedSimpArgs false
theorem readJ_length : ∀ (n : Nat) (l t : List UInt8), l.length ≤ n → readJ l = some t → t.length ≤ 4 * l.length
  | n, [], t, _, h => by rw [readJ_nil] at h; cases h; simp
  | 0, _ :: _, t, hl, _ => by simp at hl
  | n + 1, a :: r, t, hl, h => by
    have h0 : a :: r ≠ [] := by simp
    cases ho : oneJ (a :: r) with
    | none => rw [readJ_none h0 ho] at h; cases h
    | some p =>
      obtain ⟨x, m⟩ := p
      have hb := oneJ_bound ho
      rw [readJ_some h0 ho] at h
      cases hr : readJ ((a :: r).drop m) with
      | none => rw [hr] at h; cases h
      | some u =>
        rw [hr] at h
        have hle : ((a :: r).drop m).length ≤ n := by rw [List.length_drop]; simp only [List.length_cons] at *; omega
        have := readJ_length n _ u hle hr
        simp only [Option.map_some, Option.some.injEq] at h
        rw [← h, List.length_append]
        have he := (enc_length (x : Int)).1
        rw [List.length_drop] at this
        have := hb.2.1
        have := hb.2.2.2
        omega
theorem size_setCell (w : World) (p : Addr) (u : Value) : (w.setCell p u).heap.size = w.heap.size := by simp [World.setCell]
theorem chatL_size (t : List UInt8) (b : Bool) : (strOf (chatL t b)).size ≤ 24030 := by
  rw [strOf_size]
  unfold chatL
  have h1 := cutL_length t 4000 (by omega)
  have h2 := write_length (cutL t 4000)
  rw [List.length_append, List.length_append]
  have : (endC b).length ≤ 15 := by cases b <;> decide
  have : preC.length = 9 := rfl
  omega
inductive OutC where
  | cont
  | stop
  | ret (t : List UInt8)
def inC (l : List UInt8) (b : Bool) : List UInt8 := cutSufL (cutPreL l preC) (endC b)
def okC (l : List UInt8) (b : Bool) : Bool := Lib.hasPrefix l preC && Lib.hasSuffix (cutPreL l preC) (endC b)
def rdC (l : List UInt8) (b : Bool) : OutC :=
  if okC l b = false then .cont else
  match readJ (inC l b) with
  | none => .stop
  | some t => if 4000 < t.length then .stop else if clean t = t ∧ chatL t b = l then .ret t else .cont
def chatRd (l : List UInt8) : Option (List UInt8 × Bool) :=
  match rdC l true with
  | .ret t => some (t, true)
  | .stop => none
  | .cont => match rdC l false with
    | .ret t => some (t, false)
    | _ => none
def chatRV (o : Option (List UInt8 × Bool)) : Value := match o with
  | some p => .tuple #[.agg #[.string (strOf p.1), .bool p.2], .int .i64 0]
  | none => .tuple #[.agg #[.string ⟨#[]⟩, .bool false], .int .i64 7]
theorem inC_length (l : List UInt8) (b : Bool) : (inC l b).length ≤ l.length := by
  have h1 : (cutPreL l preC).length ≤ l.length := by
    unfold cutPreL; split
    · rw [List.length_drop]; omega
    · exact Nat.le_refl _
  unfold inC cutSufL
  split
  · rw [List.length_take]; omega
  · exact h1
theorem cutPreL_length (l p : List UInt8) : (cutPreL l p).length ≤ l.length := by
  unfold cutPreL; split
  · rw [List.length_drop]; omega
  · exact Nat.le_refl _
theorem arr2_under : Try.prog.underlying 46 = some (.array 2 3) := by kernel_rfl
theorem int_cells : Try.prog.cellsOf 3 = 1 := by kernel_rfl
theorem index_arr2 (a b : Value) (w : World) : (Instr.index 46 (.agg #[a, b]) (.int .i64 0)).run Try.prog w = .ok a w ∧ (Instr.index 46 (.agg #[a, b]) (.int .i64 1)).run Try.prog w = .ok b w := by
  refine ⟨?_, ?_⟩ <;> simp [Instr.index, run_underlying arr2_under, int_cells, asIntOf, go_sem]
/-- What a round of the loop is told. -/
theorem around_end (b : Bool) (E : Int) (hE : E = if b then 1 else 2) (w : World) : Calls Try.prog 20 #[.int .i64 E] w fun e w' => e = .returned (.string (strOf (endC b))) ∧ w = w' := by
  subst hE
  cases b
  · exact around_2 w
  · exact around_1 w
set_option maxRecDepth 100000 in
set_option maxHeartbeats 4000000 in
theorem chatRead_any (s : ByteArray) (w : World) (hs : s.size ≤ 60000) :
    Calls Try.prog 12 #[.string s] w fun e w' => e = .returned (chatRV (chatRd s.data.toList)) ∧ Below w.heap.size w w' := by
  have hl := Lib.hid (sz_len s)
  have A0 := Lib.hid around_0
  have hzp : (strOf preC).size = 9 := rfl
  have HP : Hid (∀ w, Calls Try.prog 23 #[.string s, .string (strOf preC)] w fun e w' => e = .returned (.tuple #[.string (strOf (cutPreL s.data.toList preC)), .bool (Lib.hasPrefix s.data.toList preC)]) ∧ w = w') := fun w => by
    have := cutPre_any s (strOf preC) w (by omega) (by rw [hzp]; omega)
    rw [strOf_list] at this
    exact this
  have HQ : Hid (∀ (b : Bool) w, Calls Try.prog 24 #[.string (strOf (cutPreL s.data.toList preC)), .string (strOf (endC b))] w fun e w' => e = .returned (.tuple #[.string (strOf (inC s.data.toList b)), .bool (Lib.hasSuffix (cutPreL s.data.toList preC) (endC b))]) ∧ w = w') := fun b w => by
    have h1 := cutPreL_length s.data.toList preC
    have := cutSuf_any (strOf (cutPreL s.data.toList preC)) (strOf (endC b)) w (by rw [strOf_size]; have := hl.out; omega) (by rw [strOf_size]; cases b <;> decide)
    rw [strOf_list, strOf_list] at this
    exact this
  have HOK : Hid (∀ b, okC s.data.toList b = (Lib.hasPrefix s.data.toList preC && Lib.hasSuffix (cutPreL s.data.toList preC) (endC b))) := fun b => rfl
  have HRD : Hid (∀ (b : Bool) w, Calls Try.prog 25 #[.string (strOf (inC s.data.toList b))] w fun e w' => e = .returned (readV (readJ (inC s.data.toList b))) ∧ Below w.heap.size w w') := fun b w => by
    have h1 := inC_length s.data.toList b
    have := read_any (strOf (inC s.data.toList b)) w (by rw [strOf_size]; have := hl.out; omega)
    rw [strOf_list] at this
    exact this
  have HLN : Hid (∀ b t, readJ (inC s.data.toList b) = some t → t.length ≤ 240000) := fun b t h => by
    have h1 := inC_length s.data.toList b
    have := readJ_length _ _ t (Nat.le_refl _) h
    have := hl.out; omega
  have HX : Hid (∀ b, rdC s.data.toList b = if okC s.data.toList b = false then .cont else
    match readJ (inC s.data.toList b) with
    | none => .stop
    | some t => if 4000 < t.length then .stop else if clean t = t ∧ chatL t b = s.data.toList then .ret t else .cont) := fun b => rfl
  have HZ : Hid (∀ o1 o2, rdC s.data.toList true = o1 → rdC s.data.toList false = o2 → chatRd s.data.toList = match o1 with
    | .ret t => some (t, true)
    | .stop => none
    | .cont => match o2 with
      | .ret t => some (t, false)
      | _ => none) := fun o1 o2 h1 h2 => by unfold chatRd; rw [h1, h2]
  have HS : Hid (∀ x : List UInt8, x = s.data.toList → strOf x = s) := fun x hx => by rw [hx, strOf_data]
  generalize strOf preC = p0 at *
  obtain ⟨ix0, ix1⟩ := index_arr2 (.int .i64 1) (.int .i64 2) w
  have HI := Lib.hid (index_arr2 (.int .i64 1) (.int .i64 2))
  clear ix0 ix1
  go_enter Try.func12, Try.ntmps12
  go_wp2_with fail
  have hR := Blk.new w 24 #[.string ⟨#[]⟩, .bool false]
  have hB := (Below.refl w.heap.size w).alloc (Nat.le_refl _) (.cells #[.string ⟨#[]⟩, .bool false] 24)
  generalize hW : w.alloc (.cells #[.string ⟨#[]⟩, .bool false] 24) = w0 at *
  have HR0 := Lib.hid (And.intro hR hB)
  clear hW hR hB
  go_outline
  go_loopw [15] (fun z wr => ∃ k : Nat, k ≤ 2 ∧ z = .int .i64 k ∧ (1 ≤ k → rdC s.data.toList true = .cont) ∧ (2 ≤ k → rdC s.data.toList false = .cont) ∧ Blk wr w.heap.size 24 #[.string ⟨#[]⟩, .bool false] ∧ Below w.heap.size w wr) (fun z _ => 2 - (intOf z).toNat)
  case atStart => exact ⟨0, by omega, rfl, fun h => by omega, fun h => by omega, HR0.out.1, HR0.out.2⟩
  case round =>
    obtain ⟨k, hk, rfl, hc1, hc2, hR, hB⟩ := hrel
    have H1 := Lib.hid hc1
    have H2 := Lib.hid hc2
    clear hc1 hc2 HR0
    have c0 := hR.cell 0
    have c1 := hR.cell 1
    have f0 := hR.frozen 0
    have f1 := hR.frozen 1
    by_cases hlt : k < 2
    · obtain ⟨b, E, hE, hix, hkb, HF⟩ : ∃ (b : Bool) (E : Int), E = (if b then 1 else 2) ∧ (∀ w, (Instr.index 46 (.agg #[.int .i64 1, .int .i64 2]) (.int .i64 k)).run Try.prog w = .ok (.int .i64 E) w) ∧
          (∀ w, Calls Try.prog 20 #[.int .i64 E] w fun e w' => e = .returned (.string (strOf (endC b))) ∧ w = w') ∧
          Hid ((rdC s.data.toList b = .cont → (1 ≤ k + 1 → rdC s.data.toList true = .cont) ∧ (2 ≤ k + 1 → rdC s.data.toList false = .cont)) ∧
            (rdC s.data.toList b = .stop → chatRd s.data.toList = none) ∧ (∀ t, rdC s.data.toList b = .ret t → chatRd s.data.toList = some (t, b))) := by
        have hk2 : k = 0 ∨ k = 1 := by omega
        rcases hk2 with rfl | rfl
        · refine ⟨true, 1, rfl, fun w => (HI.out w).1, fun w => around_end true 1 rfl w, ⟨fun h => ⟨fun _ => h, fun h => by omega⟩, fun h => ?_, fun t h => ?_⟩⟩
          · rw [HZ.out _ _ h rfl]
          · rw [HZ.out _ _ h rfl]
        · have h1 := H1.out (by omega)
          refine ⟨false, 2, rfl, fun w => (HI.out w).2, fun w => around_end false 2 rfl w, ⟨fun h => ⟨fun _ => h1, fun _ => h⟩, fun h => ?_, fun t h => ?_⟩⟩
          · rw [HZ.out _ _ h1 h]
          · rw [HZ.out _ _ h1 h]
      have AE := Lib.hid hkb
      have eE : (E == 1) = b := by subst hE; cases b <;> rfl
      have HQb := Lib.hid (HQ.out b)
      have HRb := Lib.hid (HRD.out b)
      have HOb := Lib.hid (HOK.out b)
      have HXb := Lib.hid (HX.out b)
      have HLb := Lib.hid (HLN.out b)
      clear hkb hE HQ HRD HOK HX HLN HZ H1 H2
      generalize strOf (cutPreL s.data.toList preC) = in0 at *
      generalize Lib.hasPrefix s.data.toList preC = a at *
      generalize Lib.hasSuffix (cutPreL s.data.toList preC) (endC b) = a2 at *
      generalize strOf (endC b) = pe at *
      generalize inC s.data.toList b = inl at *
      by_cases hok : (a && a2) = false
      · have hcont : Hid (rdC s.data.toList b = .cont) := by show _ = _; rw [HXb.out, if_pos (by rw [HOb.out]; exact hok)]
        have hcc := Lib.hid (HF.out.1 hcont.out)
        clear hcont HXb HOb HF HRb HLb
        have h3 : (a = false ∧ a2 = false) ∨ (a = false ∧ a2 = true) ∨ (a = true ∧ a2 = false) := by cases a <;> cases a2 <;> simp_all
        clear hok
        rcases h3 with ⟨rfl, rfl⟩ | ⟨rfl, rfl⟩ | ⟨rfl, rfl⟩
        all_goals
          go_wp2_with fail
          refine (A0.out _).mono ?_
          rintro e w' ⟨rfl, rfl⟩
          go_wp2_with fail
          refine (HP.out _).mono ?_
          rintro e w' ⟨rfl, rfl⟩
          go_wp2_with fail
          refine (AE.out _).mono ?_
          rintro e w' ⟨rfl, rfl⟩
          go_wp2_with fail
          refine (HQb.out _).mono ?_
          rintro e w' ⟨rfl, rfl⟩
          go_wp2_with fail
          go_roundw
          case rel => exact ⟨k + 1, by omega, by go_num, hcc.out.1, hcc.out.2, hR, hB⟩
          case measure => simp [intOf]; omega
      · have hok' : okC s.data.toList b = true := by rw [HOb.out]; simpa using hok
        obtain ⟨rfl, rfl⟩ : a = true ∧ a2 = true := by cases a <;> cases a2 <;> simp_all
        rw [hok', if_neg (by simp)] at HXb
        clear hok hok' HOb
        have hlt0 := hR.lt
        cases hj : readJ inl with
        | none =>
          rw [hj] at HXb HRb
          have hstop := Lib.hid (HF.out.2.1 HXb.out)
          clear HXb HF HLb hj
          unfold readV at HRb
          dsimp only at HRb
          go_wp2_with fail
          refine (A0.out _).mono ?_
          rintro e w' ⟨rfl, rfl⟩
          go_wp2_with fail
          refine (HP.out _).mono ?_
          rintro e w' ⟨rfl, rfl⟩
          go_wp2_with fail
          refine (AE.out _).mono ?_
          rintro e w' ⟨rfl, rfl⟩
          go_wp2_with fail
          refine (HQb.out _).mono ?_
          rintro e w' ⟨rfl, rfl⟩
          go_wp2_with fail
          refine (HRb.out _).mono ?_
          rintro e w3 ⟨rfl, b3⟩
          have hR3 := hR.below b3 hlt0
          have hB3 := hB.trans (b3.mono hB.size)
          have hlt3 := hR3.lt
          clear c0 c1 f0 f1 hR hB b3
          have c0 := hR3.cell 0
          have c1 := hR3.cell 1
          have f0 := hR3.frozen 0
          have f1 := hR3.frozen 1
          go_wp2_with fail
          have hF := (((hR3.set_ 0 (.string ⟨#[]⟩)).set_ 1 (.bool false)).alloc (.cells #[.string ⟨#[]⟩, .bool b] 24))
          have s0 : (World.alloc _ _).cell? _ = some (.string ⟨#[]⟩) := hF.cell 0
          have s1 : (World.alloc _ _).cell? _ = some (.bool false) := hF.cell 1
          exact bodyPost_ret (v := .tuple #[.agg #[.string ⟨#[]⟩, .bool false], .int .i64 7]) (by simp [results, Try.f12, go_sem, s0, s1]) rfl ⟨by rw [hstop.out]; rfl, (((hB3.setCell (p := ⟨w.heap.size, 0, none⟩) (Nat.le_refl _) _).setCell (p := ⟨w.heap.size, 1, none⟩) (Nat.le_refl _) _).alloc (by rw [size_setCell, size_setCell]; omega) _)⟩
        | some t =>
          rw [hj] at HXb HRb
          have htl := HLb.out t hj
          unfold readV at HRb
          dsimp only at HRb HXb
          clear HLb hj
          have hzt := strOf_size t
          by_cases h4 : 4000 < t.length
          · rw [if_pos h4] at HXb
            have hstop := Lib.hid (HF.out.2.1 HXb.out)
            have HFi := Lib.hid (fun w => fits_any (strOf t) b w (by omega))
            rw [decide_eq_false (by omega)] at HFi
            clear HXb HF h4
            generalize strOf t = tt at *
            go_wp2_with fail
            refine (A0.out _).mono ?_
            rintro e w' ⟨rfl, rfl⟩
            go_wp2_with fail
            refine (HP.out _).mono ?_
            rintro e w' ⟨rfl, rfl⟩
            go_wp2_with fail
            refine (AE.out _).mono ?_
            rintro e w' ⟨rfl, rfl⟩
            go_wp2_with fail
            refine (HQb.out _).mono ?_
            rintro e w' ⟨rfl, rfl⟩
            go_wp2_with fail
            refine (HRb.out _).mono ?_
            rintro e w3 ⟨rfl, b3⟩
            have hR3 := hR.below b3 hlt0
            have hB3 := hB.trans (b3.mono hB.size)
            have hlt3 := hR3.lt
            clear c0 c1 f0 f1 hR hB b3
            have c0 := hR3.cell 0
            have c1 := hR3.cell 1
            have f0 := hR3.frozen 0
            have f1 := hR3.frozen 1
            go_wp2_with fail
            refine (HFi.out _).mono ?_
            rintro e w4 ⟨rfl, b4⟩
            have hR4 := (hR3.alloc (.cells #[.string tt, .bool b] 24)).below b4 (by simp; omega)
            have hQ4 := (Blk.new w3 24 #[.string tt, .bool b]).below b4 (by simp)
            have hB3a := hB3.alloc (by omega) (.cells #[.string tt, .bool b] 24)
            have hB4 := hB3a.trans (b4.mono hB3a.size)
            have hlt4 := hR4.lt
            have hne : w3.heap.size ≠ w.heap.size := by omega
            clear c0 c1 f0 f1 hR3 hB3 b4 hB3a
            have c0 := hR4.cell 0
            have c1 := hR4.cell 1
            have f0 := hR4.frozen 0
            have f1 := hR4.frozen 1
            have q0 := hQ4.cell 0
            have q1 := hQ4.cell 1
            go_wp2_with fail
            have hF := ((hR4.set_ 0 (.string ⟨#[]⟩)).set_ 1 (.bool false))
            have s0 : (World.setCell _ _ _).cell? _ = some (.string ⟨#[]⟩) := hF.cell 0
            have s1 : (World.setCell _ _ _).cell? _ = some (.bool false) := hF.cell 1
            exact bodyPost_ret (v := .tuple #[.agg #[.string ⟨#[]⟩, .bool false], .int .i64 7]) (by simp [results, Try.f12, go_sem, s0, s1]) rfl ⟨by rw [hstop.out]; rfl, ((hB4.setCell (p := ⟨w.heap.size, 0, none⟩) (Nat.le_refl _) _).setCell (p := ⟨w.heap.size, 1, none⟩) (Nat.le_refl _) _)⟩
          · rw [if_neg h4] at HXb
            have HFi := Lib.hid (fun w => fits_any (strOf t) b w (by omega))
            rw [decide_eq_true (by omega)] at HFi
            have HBu := Lib.hid (fun w => chat_any (strOf t) b w (by omega))
            rw [strOf_list] at HBu
            unfold chatV at HBu
            by_cases hcl : clean t = t
            · rw [if_pos hcl] at HBu
              have hzc := chatL_size t b
              by_cases heq : chatL t b = s.data.toList
              · rw [if_pos ⟨hcl, heq⟩] at HXb
                have hret := Lib.hid (HF.out.2.2 _ HXb.out)
                have hself : (s.toList == s.toList) = true := by simp
                rw [HS.out _ heq] at HBu
                have HT := Lib.hid (rfl : strOf t = strOf t)
                clear HXb HF h4 hcl heq hzc
                obtain ⟨tt, htt⟩ : ∃ x, strOf t = x := ⟨_, rfl⟩
                have Htt := Lib.hid htt
                rw [htt] at HFi HBu HRb hzt
                clear htt HT
                go_wp2_with fail
                refine (A0.out _).mono ?_
                rintro e w' ⟨rfl, rfl⟩
                go_wp2_with fail
                refine (HP.out _).mono ?_
                rintro e w' ⟨rfl, rfl⟩
                go_wp2_with fail
                refine (AE.out _).mono ?_
                rintro e w' ⟨rfl, rfl⟩
                go_wp2_with fail
                refine (HQb.out _).mono ?_
                rintro e w' ⟨rfl, rfl⟩
                go_wp2_with fail
                refine (HRb.out _).mono ?_
                rintro e w3 ⟨rfl, b3⟩
                have hR3 := hR.below b3 hlt0
                have hB3 := hB.trans (b3.mono hB.size)
                have hlt3 := hR3.lt
                clear c0 c1 f0 f1 hR hB b3
                have c0 := hR3.cell 0
                have c1 := hR3.cell 1
                have f0 := hR3.frozen 0
                have f1 := hR3.frozen 1
                go_wp2_with fail
                refine (HFi.out _).mono ?_
                rintro e w4 ⟨rfl, b4⟩
                have hR4 := (hR3.alloc (.cells #[.string tt, .bool b] 24)).below b4 (by simp; omega)
                have hQ4 := (Blk.new w3 24 #[.string tt, .bool b]).below b4 (by simp)
                have hB3a := hB3.alloc (by omega) (.cells #[.string tt, .bool b] 24)
                have hB4 := hB3a.trans (b4.mono hB3a.size)
                have hlt4 := hR4.lt
                have hne : w3.heap.size ≠ w.heap.size := by omega
                clear c0 c1 f0 f1 hR3 hB3 b4 hB3a
                have c0 := hR4.cell 0
                have c1 := hR4.cell 1
                have f0 := hR4.frozen 0
                have f1 := hR4.frozen 1
                have q0 := hQ4.cell 0
                have q1 := hQ4.cell 1
                go_wp2_with fail
                refine (HBu.out _).mono ?_
                rintro e w5 ⟨rfl, b5⟩
                have hR5 := hR4.below b5 hR4.lt
                have hQ5 := hQ4.below b5 hQ4.lt
                have hB5 := hB4.trans (b5.mono hB4.size)
                clear c0 c1 f0 f1 q0 q1 hR4 hQ4 hB4 b5
                have c0 := hR5.cell 0
                have c1 := hR5.cell 1
                have f0 := hR5.frozen 0
                have f1 := hR5.frozen 1
                have q0 := hQ5.cell 0
                have q1 := hQ5.cell 1
                go_wp2_with fail
                have hF := ((hR5.set_ 0 (.string tt)).set_ 1 (.bool b))
                have s0 : (World.setCell _ _ _).cell? _ = some (.string tt) := hF.cell 0
                have s1 : (World.setCell _ _ _).cell? _ = some (.bool b) := hF.cell 1
                exact bodyPost_ret (v := .tuple #[.agg #[.string tt, .bool b], .int .i64 0]) (by simp [results, Try.f12, go_sem, s0, s1]) rfl ⟨by rw [hret.out, ← Htt.out]; rfl, ((hB5.setCell (p := ⟨w.heap.size, 0, none⟩) (Nat.le_refl _) _).setCell (p := ⟨w.heap.size, 1, none⟩) (Nat.le_refl _) _)⟩
              · rw [if_neg (fun h => heq h.2)] at HXb
                have hcc := Lib.hid (HF.out.1 HXb.out)
                have hne2 : ((strOf (chatL t b)).toList == s.toList) = false := by
                  rw [strOf_toL]; simp only [beq_eq_false_iff_ne, ne_eq]; rw [ByteArray.toList_eq]; exact heq
                clear HXb HF h4 hcl heq hzc
                generalize strOf (chatL t b) = x at *
                generalize strOf t = tt at *
                go_wp2_with fail
                refine (A0.out _).mono ?_
                rintro e w' ⟨rfl, rfl⟩
                go_wp2_with fail
                refine (HP.out _).mono ?_
                rintro e w' ⟨rfl, rfl⟩
                go_wp2_with fail
                refine (AE.out _).mono ?_
                rintro e w' ⟨rfl, rfl⟩
                go_wp2_with fail
                refine (HQb.out _).mono ?_
                rintro e w' ⟨rfl, rfl⟩
                go_wp2_with fail
                refine (HRb.out _).mono ?_
                rintro e w3 ⟨rfl, b3⟩
                have hR3 := hR.below b3 hlt0
                have hB3 := hB.trans (b3.mono hB.size)
                have hlt3 := hR3.lt
                clear c0 c1 f0 f1 hR hB b3
                have c0 := hR3.cell 0
                have c1 := hR3.cell 1
                have f0 := hR3.frozen 0
                have f1 := hR3.frozen 1
                go_wp2_with fail
                refine (HFi.out _).mono ?_
                rintro e w4 ⟨rfl, b4⟩
                have hR4 := (hR3.alloc (.cells #[.string tt, .bool b] 24)).below b4 (by simp; omega)
                have hQ4 := (Blk.new w3 24 #[.string tt, .bool b]).below b4 (by simp)
                have hB3a := hB3.alloc (by omega) (.cells #[.string tt, .bool b] 24)
                have hB4 := hB3a.trans (b4.mono hB3a.size)
                have hlt4 := hR4.lt
                have hne : w3.heap.size ≠ w.heap.size := by omega
                clear c0 c1 f0 f1 hR3 hB3 b4 hB3a
                have c0 := hR4.cell 0
                have c1 := hR4.cell 1
                have f0 := hR4.frozen 0
                have f1 := hR4.frozen 1
                have q0 := hQ4.cell 0
                have q1 := hQ4.cell 1
                go_wp2_with fail
                refine (HBu.out _).mono ?_
                rintro e w5 ⟨rfl, b5⟩
                have hR5 := hR4.below b5 hR4.lt
                have hQ5 := hQ4.below b5 hQ4.lt
                have hB5 := hB4.trans (b5.mono hB4.size)
                clear c0 c1 f0 f1 q0 q1 hR4 hQ4 hB4 b5
                have c0 := hR5.cell 0
                have c1 := hR5.cell 1
                have f0 := hR5.frozen 0
                have f1 := hR5.frozen 1
                have q0 := hQ5.cell 0
                have q1 := hQ5.cell 1
                go_wp2_with fail
                go_roundw
                case rel => exact ⟨k + 1, by omega, by go_num, hcc.out.1, hcc.out.2, hR5, hB5⟩
                case measure => simp [intOf]; omega
            · rw [if_neg hcl] at HBu
              rw [if_neg (fun h => hcl h.1)] at HXb
              have hcc := Lib.hid (HF.out.1 HXb.out)
              clear HXb HF h4 hcl
              generalize strOf t = tt at *
              go_wp2_with fail
              refine (A0.out _).mono ?_
              rintro e w' ⟨rfl, rfl⟩
              go_wp2_with fail
              refine (HP.out _).mono ?_
              rintro e w' ⟨rfl, rfl⟩
              go_wp2_with fail
              refine (AE.out _).mono ?_
              rintro e w' ⟨rfl, rfl⟩
              go_wp2_with fail
              refine (HQb.out _).mono ?_
              rintro e w' ⟨rfl, rfl⟩
              go_wp2_with fail
              refine (HRb.out _).mono ?_
              rintro e w3 ⟨rfl, b3⟩
              have hR3 := hR.below b3 hlt0
              have hB3 := hB.trans (b3.mono hB.size)
              have hlt3 := hR3.lt
              clear c0 c1 f0 f1 hR hB b3
              have c0 := hR3.cell 0
              have c1 := hR3.cell 1
              have f0 := hR3.frozen 0
              have f1 := hR3.frozen 1
              go_wp2_with fail
              refine (HFi.out _).mono ?_
              rintro e w4 ⟨rfl, b4⟩
              have hR4 := (hR3.alloc (.cells #[.string tt, .bool b] 24)).below b4 (by simp; omega)
              have hQ4 := (Blk.new w3 24 #[.string tt, .bool b]).below b4 (by simp)
              have hB3a := hB3.alloc (by omega) (.cells #[.string tt, .bool b] 24)
              have hB4 := hB3a.trans (b4.mono hB3a.size)
              have hlt4 := hR4.lt
              have hne : w3.heap.size ≠ w.heap.size := by omega
              clear c0 c1 f0 f1 hR3 hB3 b4 hB3a
              have c0 := hR4.cell 0
              have c1 := hR4.cell 1
              have f0 := hR4.frozen 0
              have f1 := hR4.frozen 1
              have q0 := hQ4.cell 0
              have q1 := hQ4.cell 1
              go_wp2_with fail
              refine (HBu.out _).mono ?_
              rintro e w5 ⟨rfl, b5⟩
              have hR5 := hR4.below b5 hR4.lt
              have hQ5 := hQ4.below b5 hQ4.lt
              have hB5 := hB4.trans (b5.mono hB4.size)
              clear c0 c1 f0 f1 q0 q1 hR4 hQ4 hB4 b5
              have c0 := hR5.cell 0
              have c1 := hR5.cell 1
              have f0 := hR5.frozen 0
              have f1 := hR5.frozen 1
              have q0 := hQ5.cell 0
              have q1 := hQ5.cell 1
              go_wp2_with fail
              go_roundw
              case rel => exact ⟨k + 1, by omega, by go_num, hcc.out.1, hcc.out.2, hR5, hB5⟩
              case measure => simp [intOf]; omega
    · obtain rfl : k = 2 := by omega
      have hn : Hid (chatRd s.data.toList = none) := by
        show _ = _
        rw [HZ.out _ _ (H1.out (by omega)) (H2.out (by omega))]
      have hlt0 := hR.lt
      clear HQ HRD HOK HX HLN HZ H1 H2 hlt hk
      go_wp2_with fail
      have hF := ((hR.set_ 0 (.string ⟨#[]⟩)).set_ 1 (.bool false))
      have s0 : (World.setCell _ _ _).cell? _ = some (.string ⟨#[]⟩) := hF.cell 0
      have s1 : (World.setCell _ _ _).cell? _ = some (.bool false) := hF.cell 1
      exact bodyPost_ret (v := .tuple #[.agg #[.string ⟨#[]⟩, .bool false], .int .i64 7]) (by simp [results, Try.f12, go_sem, s0, s1]) rfl ⟨by rw [hn.out]; rfl, ((hB.setCell (p := ⟨w.heap.size, 0, none⟩) (Nat.le_refl _) _).setCell (p := ⟨w.heap.size, 1, none⟩) (Nat.le_refl _) _)⟩
end Go.Proofs.Ytdmlciebkilmjaa
