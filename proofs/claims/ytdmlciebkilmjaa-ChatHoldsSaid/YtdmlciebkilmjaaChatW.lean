/- Walks: a post, read. -/
import Derived.Test.YtdmlciebkilmjaaChatB
import Derived.Outline
import Derived.Test.YtdmlciebkilmjaaJsW
import Derived.StillTailTactics
import Derived.Test.YtdmlciebkilmjaaJsSpec
namespace Go.Proofs.Ytdmlciebkilmjaa
open Go.RowKit
set_option linter.unusedVariables false
set_option linter.unusedSimpArgs false
def cutPreL (l p : List UInt8) : List UInt8 := if Lib.hasPrefix l p then l.drop p.length else l
def cutSufL (l p : List UInt8) : List UInt8 := if Lib.hasSuffix l p then l.take (l.length - p.length) else l
theorem hasPre_len {l p : List UInt8} (h : Lib.hasPrefix l p = true) : p.length ≤ l.length := by
  unfold Lib.hasPrefix at h
  exact (List.isPrefixOf_iff_prefix.1 h).length_le
theorem hasSuf_len {l p : List UInt8} (h : Lib.hasSuffix l p = true) : p.length ≤ l.length := by
  unfold Lib.hasSuffix at h
  exact (List.isSuffixOf_iff_suffix.1 h).length_le
theorem lcutPre_any (s p : ByteArray) (w : World) (hs : s.size ≤ 9223372036854775807) (hp : p.size ≤ 9223372036854775807) :
    Calls Try.prog 47 #[.string s, .string p] w fun e w' => e = .returned (.tuple #[.string (strOf (cutPreL s.data.toList p.data.toList)), .bool (Lib.hasPrefix s.data.toList p.data.toList)]) ∧ w = w' := by
  have HP : Hid (∀ w, Calls Try.prog 60 #[.string s, .string p] w fun e w' => e = .returned (.bool (Lib.hasPrefix s.data.toList p.data.toList)) ∧ w = w') := fun w => (Try.stringslite_HasPrefix s p w).mono fun e w' ⟨a, b⟩ => ⟨a, b.symm⟩
  have hl := sz_len s
  have hq := sz_len p
  cases h : Lib.hasPrefix s.data.toList p.data.toList with
  | false =>
    have HV : Hid (strOf (cutPreL s.data.toList p.data.toList) = s) := by show _ = _; unfold cutPreL; rw [h, if_neg (by simp), strOf_data]
    rw [h] at HP
    clear h hl hq
    go_enter Try.func47, Try.ntmps47
    go_wp2_with fail
    refine (HP.out _).mono ?_
    rintro e w' ⟨rfl, rfl⟩
    go_wp2_with fail
    go_ret2
    exact ⟨by rw [HV.out]; rfl, rfl⟩
  | true =>
    have hle := hasPre_len h
    rw [← hl, ← hq] at hle
    have HV : Hid (strOf (cutPreL s.data.toList p.data.toList) = s.extract p.size s.size) := by
      show _ = _; unfold cutPreL; rw [h, if_pos rfl, ← ext_eq _ _ _ (Nat.le_refl _), List.take_of_length_le (by rw [List.length_drop]; omega), hq]
    rw [h] at HP
    clear h hl hq
    go_enter Try.func47, Try.ntmps47
    go_wp2_with fail
    refine (HP.out _).mono ?_
    rintro e w' ⟨rfl, rfl⟩
    go_wp2_with fail
    go_ret2
    exact ⟨by rw [HV.out]; rfl, rfl⟩
theorem lcutSuf_any (s p : ByteArray) (w : World) (hs : s.size ≤ 9223372036854775807) (hp : p.size ≤ 9223372036854775807) :
    Calls Try.prog 48 #[.string s, .string p] w fun e w' => e = .returned (.tuple #[.string (strOf (cutSufL s.data.toList p.data.toList)), .bool (Lib.hasSuffix s.data.toList p.data.toList)]) ∧ w = w' := by
  have HP : Hid (∀ w, Calls Try.prog 61 #[.string s, .string p] w fun e w' => e = .returned (.bool (Lib.hasSuffix s.data.toList p.data.toList)) ∧ w = w') := fun w => (Try.stringslite_HasSuffix s p w hs).mono fun e w' ⟨a, b⟩ => ⟨a, b.symm⟩
  have hl := sz_len s
  have hq := sz_len p
  cases h : Lib.hasSuffix s.data.toList p.data.toList with
  | false =>
    have HV : Hid (strOf (cutSufL s.data.toList p.data.toList) = s) := by show _ = _; unfold cutSufL; rw [h, if_neg (by simp), strOf_data]
    rw [h] at HP
    clear h hl hq
    go_enter Try.func48, Try.ntmps48
    go_wp2_with fail
    refine (HP.out _).mono ?_
    rintro e w' ⟨rfl, rfl⟩
    go_wp2_with fail
    go_ret2
    exact ⟨by rw [HV.out]; rfl, rfl⟩
  | true =>
    have hle := hasSuf_len h
    rw [← hl, ← hq] at hle
    have hsub : ((s.size : Int) - p.size).toNat = s.size - p.size := by omega
    have HV : Hid (strOf (cutSufL s.data.toList p.data.toList) = s.extract 0 (s.size - p.size)) := by
      show _ = _; unfold cutSufL; rw [h, if_pos rfl, ← take_ext _ _ (by omega), hl, hq]
    rw [h] at HP
    clear h hl hq
    go_enter Try.func48, Try.ntmps48
    go_wp2_with fail
    refine (HP.out _).mono ?_
    rintro e w' ⟨rfl, rfl⟩
    go_wp2_with fail
    go_ret2
    exact ⟨by rw [HV.out]; rfl, rfl⟩
theorem cutPre_any (s p : ByteArray) (w : World) (hs : s.size ≤ 9223372036854775807) (hp : p.size ≤ 9223372036854775807) :
    Calls Try.prog 23 #[.string s, .string p] w fun e w' => e = .returned (.tuple #[.string (strOf (cutPreL s.data.toList p.data.toList)), .bool (Lib.hasPrefix s.data.toList p.data.toList)]) ∧ w = w' := by
  have HP := Lib.hid (fun w => lcutPre_any s p w hs hp)
  generalize strOf (cutPreL s.data.toList p.data.toList) = x at *
  generalize Lib.hasPrefix s.data.toList p.data.toList = b at *
  go_enter Try.func23, Try.ntmps23
  go_wp2_with fail
  refine (HP.out _).mono ?_
  rintro e w' ⟨rfl, rfl⟩
  go_wp2_with fail
  go_ret2
  exact ⟨rfl, rfl⟩
theorem cutSuf_any (s p : ByteArray) (w : World) (hs : s.size ≤ 9223372036854775807) (hp : p.size ≤ 9223372036854775807) :
    Calls Try.prog 24 #[.string s, .string p] w fun e w' => e = .returned (.tuple #[.string (strOf (cutSufL s.data.toList p.data.toList)), .bool (Lib.hasSuffix s.data.toList p.data.toList)]) ∧ w = w' := by
  have HP := Lib.hid (fun w => lcutSuf_any s p w hs hp)
  generalize strOf (cutSufL s.data.toList p.data.toList) = x at *
  generalize Lib.hasSuffix s.data.toList p.data.toList = b at *
  go_enter Try.func24, Try.ntmps24
  go_wp2_with fail
  refine (HP.out _).mono ?_
  rintro e w' ⟨rfl, rfl⟩
  go_wp2_with fail
  go_ret2
  exact ⟨rfl, rfl⟩
end Go.Proofs.Ytdmlciebkilmjaa

/- Walks: a post, read. -/
namespace Go.Proofs.Ytdmlciebkilmjaa
open Go.RowKit
set_option linter.unusedVariables false
set_option linter.unusedSimpArgs false
theorem readJ_length : ∀ (n : Nat) (l t : List UInt8), l.length ≤ n → readJ l = some t → t.length ≤ 4 * l.length
  | n, [], t, _, h => by rw [readJ_nil] at h; cases h; simp
  | 0, _ :: _, t, hl, _ => by simp at hl
  | n + 1, a :: r, t, hl, h => by
    have h0 : a :: r ≠ [] := by simp
    cases ho : oneJ (a :: r) with
    | none => rw [readJ_none h0 ho] at h; cases h
    | some p =>
      obtain ⟨x, m⟩ := p
      have hb := oneJ_bound ho
      rw [readJ_some h0 ho] at h
      cases hr : readJ ((a :: r).drop m) with
      | none => rw [hr] at h; cases h
      | some u =>
        rw [hr] at h
        have hle : ((a :: r).drop m).length ≤ n := by rw [List.length_drop]; simp only [List.length_cons] at *; omega
        have := readJ_length n _ u hle hr
        simp only [Option.map_some, Option.some.injEq] at h
        rw [← h, List.length_append]
        have he := (enc_length (x : Int)).1
        rw [List.length_drop] at this
        have := hb.2.1
        have := hb.2.2.2
        omega
theorem size_setCell (w : World) (p : Addr) (u : Value) : (w.setCell p u).heap.size = w.heap.size := by simp [World.setCell]
theorem chatL_size (t : List UInt8) (b : Bool) : (strOf (chatL t b)).size ≤ 24030 := by
  rw [strOf_size]
  unfold chatL
  have h1 := cutL_length t 4000 (by omega)
  have h2 := write_length (cutL t 4000)
  rw [List.length_append, List.length_append]
  have : (endC b).length ≤ 15 := by cases b <;> decide
  have : preC.length = 9 := rfl
  omega
inductive OutC where
  | cont
  | stop
  | ret (t : List UInt8)
def inC (l : List UInt8) (b : Bool) : List UInt8 := cutSufL (cutPreL l preC) (endC b)
def okC (l : List UInt8) (b : Bool) : Bool := Lib.hasPrefix l preC && Lib.hasSuffix (cutPreL l preC) (endC b)
def rdC (l : List UInt8) (b : Bool) : OutC :=
  if okC l b = false then .cont else
  match readJ (inC l b) with
  | none => .stop
  | some t => if 4000 < t.length then .stop else if clean t = t ∧ chatL t b = l then .ret t else .cont
def chatRd (l : List UInt8) : Option (List UInt8 × Bool) :=
  match rdC l true with
  | .ret t => some (t, true)
  | .stop => none
  | .cont => match rdC l false with
    | .ret t => some (t, false)
    | _ => none
def chatRV (o : Option (List UInt8 × Bool)) : Value := match o with
  | some p => .tuple #[.agg #[.string (strOf p.1), .bool p.2], .int .i64 0]
  | none => .tuple #[.agg #[.string ⟨#[]⟩, .bool false], .int .i64 7]
theorem inC_length (l : List UInt8) (b : Bool) : (inC l b).length ≤ l.length := by
  have h1 : (cutPreL l preC).length ≤ l.length := by
    unfold cutPreL; split
    · rw [List.length_drop]; omega
    · exact Nat.le_refl _
  unfold inC cutSufL
  split
  · rw [List.length_take]; omega
  · exact h1
theorem cutPreL_length (l p : List UInt8) : (cutPreL l p).length ≤ l.length := by
  unfold cutPreL; split
  · rw [List.length_drop]; omega
  · exact Nat.le_refl _
theorem arr2_under : Try.prog.underlying 46 = some (.array 2 3) := by kernel_rfl
theorem int_cells : Try.prog.cellsOf 3 = 1 := by kernel_rfl
theorem index_arr2 (a b : Value) (w : World) : (Instr.index 46 (.agg #[a, b]) (.int .i64 0)).run Try.prog w = .ok a w ∧ (Instr.index 46 (.agg #[a, b]) (.int .i64 1)).run Try.prog w = .ok b w := by
  refine ⟨?_, ?_⟩ <;> simp [Instr.index, run_underlying arr2_under, int_cells, asIntOf, go_sem]
/-- What a round of the loop is told. -/
theorem around_end (b : Bool) (E : Int) (hE : E = if b then 1 else 2) (w : World) : Calls Try.prog 20 #[.int .i64 E] w fun e w' => e = .returned (.string (strOf (endC b))) ∧ w = w' := by
  subst hE
  cases b
  · exact around_2 w
  · exact around_1 w
set_option maxRecDepth 100000 in
set_option maxHeartbeats 4000000 in
theorem chatRead_any (s : ByteArray) (w : World) (hs : s.size ≤ 60000) :
    Calls Try.prog 12 #[.string s] w fun e w' => e = .returned (chatRV (chatRd s.data.toList)) ∧ Below w.heap.size w w' := by
  have hl := Lib.hid (sz_len s)
  have A0 := Lib.hid around_0
  have hzp : (strOf preC).size = 9 := rfl
  have HP : Hid (∀ w, Calls Try.prog 23 #[.string s, .string (strOf preC)] w fun e w' => e = .returned (.tuple #[.string (strOf (cutPreL s.data.toList preC)), .bool (Lib.hasPrefix s.data.toList preC)]) ∧ w = w') := fun w => by
    have := cutPre_any s (strOf preC) w (by omega) (by rw [hzp]; omega)
    rw [strOf_list] at this
    exact this
  have HQ : Hid (∀ (b : Bool) w, Calls Try.prog 24 #[.string (strOf (cutPreL s.data.toList preC)), .string (strOf (endC b))] w fun e w' => e = .returned (.tuple #[.string (strOf (inC s.data.toList b)), .bool (Lib.hasSuffix (cutPreL s.data.toList preC) (endC b))]) ∧ w = w') := fun b w => by
    have h1 := cutPreL_length s.data.toList preC
    have := cutSuf_any (strOf (cutPreL s.data.toList preC)) (strOf (endC b)) w (by rw [strOf_size]; have := hl.out; omega) (by rw [strOf_size]; cases b <;> decide)
    rw [strOf_list, strOf_list] at this
    exact this
  have HOK : Hid (∀ b, okC s.data.toList b = (Lib.hasPrefix s.data.toList preC && Lib.hasSuffix (cutPreL s.data.toList preC) (endC b))) := fun b => rfl
  have HRD : Hid (∀ (b : Bool) w, Calls Try.prog 25 #[.string (strOf (inC s.data.toList b))] w fun e w' => e = .returned (readV (readJ (inC s.data.toList b))) ∧ Below w.heap.size w w') := fun b w => by
    have h1 := inC_length s.data.toList b
    have := read_any (strOf (inC s.data.toList b)) w (by rw [strOf_size]; have := hl.out; omega)
    rw [strOf_list] at this
    exact this
  have HLN : Hid (∀ b t, readJ (inC s.data.toList b) = some t → t.length ≤ 240000) := fun b t h => by
    have h1 := inC_length s.data.toList b
    have := readJ_length _ _ t (Nat.le_refl _) h
    have := hl.out; omega
  have HX : Hid (∀ b, rdC s.data.toList b = if okC s.data.toList b = false then .cont else
    match readJ (inC s.data.toList b) with
    | none => .stop
    | some t => if 4000 < t.length then .stop else if clean t = t ∧ chatL t b = s.data.toList then .ret t else .cont) := fun b => rfl
  have HZ : Hid (∀ o1 o2, rdC s.data.toList true = o1 → rdC s.data.toList false = o2 → chatRd s.data.toList = match o1 with
    | .ret t => some (t, true)
    | .stop => none
    | .cont => match o2 with
      | .ret t => some (t, false)
      | _ => none) := fun o1 o2 h1 h2 => by unfold chatRd; rw [h1, h2]
  have HS : Hid (∀ x : List UInt8, x = s.data.toList → strOf x = s) := fun x hx => by rw [hx, strOf_data]
  generalize strOf preC = p0 at *
  obtain ⟨ix0, ix1⟩ := index_arr2 (.int .i64 1) (.int .i64 2) w
  have HI := Lib.hid (index_arr2 (.int .i64 1) (.int .i64 2))
  clear ix0 ix1
  go_enter Try.func12, Try.ntmps12
  go_wp2_with fail
  have hR := Blk.new w 24 #[.string ⟨#[]⟩, .bool false]
  have hB := (Below.refl w.heap.size w).alloc (Nat.le_refl _) (.cells #[.string ⟨#[]⟩, .bool false] 24)
  generalize hW : w.alloc (.cells #[.string ⟨#[]⟩, .bool false] 24) = w0 at *
  have HR0 := Lib.hid (And.intro hR hB)
  clear hW hR hB
  go_outline
  go_loopw [15] (fun z wr => ∃ k : Nat, k ≤ 2 ∧ z = .int .i64 k ∧ (1 ≤ k → rdC s.data.toList true = .cont) ∧ (2 ≤ k → rdC s.data.toList false = .cont) ∧ Blk wr w.heap.size 24 #[.string ⟨#[]⟩, .bool false] ∧ Below w.heap.size w wr) (fun z _ => 2 - (intOf z).toNat)
  case atStart => exact ⟨0, by omega, rfl, fun h => by omega, fun h => by omega, HR0.out.1, HR0.out.2⟩
  case round =>
    obtain ⟨k, hk, rfl, hc1, hc2, hR, hB⟩ := hrel
    have H1 := Lib.hid hc1
    have H2 := Lib.hid hc2
    clear hc1 hc2 HR0
    have c0 := hR.cell 0
    have c1 := hR.cell 1
    have f0 := hR.frozen 0
    have f1 := hR.frozen 1
    by_cases hlt : k < 2
    · obtain ⟨b, E, hE, hix, hkb, HF⟩ : ∃ (b : Bool) (E : Int), E = (if b then 1 else 2) ∧ (∀ w, (Instr.index 46 (.agg #[.int .i64 1, .int .i64 2]) (.int .i64 k)).run Try.prog w = .ok (.int .i64 E) w) ∧
          (∀ w, Calls Try.prog 20 #[.int .i64 E] w fun e w' => e = .returned (.string (strOf (endC b))) ∧ w = w') ∧
          Hid ((rdC s.data.toList b = .cont → (1 ≤ k + 1 → rdC s.data.toList true = .cont) ∧ (2 ≤ k + 1 → rdC s.data.toList false = .cont)) ∧
            (rdC s.data.toList b = .stop → chatRd s.data.toList = none) ∧ (∀ t, rdC s.data.toList b = .ret t → chatRd s.data.toList = some (t, b))) := by
        have hk2 : k = 0 ∨ k = 1 := by omega
        rcases hk2 with rfl | rfl
        · refine ⟨true, 1, rfl, fun w => (HI.out w).1, fun w => around_end true 1 rfl w, ⟨fun h => ⟨fun _ => h, fun h => by omega⟩, fun h => ?_, fun t h => ?_⟩⟩
          · rw [HZ.out _ _ h rfl]
          · rw [HZ.out _ _ h rfl]
        · have h1 := H1.out (by omega)
          refine ⟨false, 2, rfl, fun w => (HI.out w).2, fun w => around_end false 2 rfl w, ⟨fun h => ⟨fun _ => h1, fun _ => h⟩, fun h => ?_, fun t h => ?_⟩⟩
          · rw [HZ.out _ _ h1 h]
          · rw [HZ.out _ _ h1 h]
      have AE := Lib.hid hkb
      have eE : (E == 1) = b := by subst hE; cases b <;> rfl
      have HQb := Lib.hid (HQ.out b)
      have HRb := Lib.hid (HRD.out b)
      have HOb := Lib.hid (HOK.out b)
      have HXb := Lib.hid (HX.out b)
      have HLb := Lib.hid (HLN.out b)
      clear hkb hE HQ HRD HOK HX HLN HZ H1 H2
      generalize strOf (cutPreL s.data.toList preC) = in0 at *
      generalize Lib.hasPrefix s.data.toList preC = a at *
      generalize Lib.hasSuffix (cutPreL s.data.toList preC) (endC b) = a2 at *
      generalize strOf (endC b) = pe at *
      generalize inC s.data.toList b = inl at *
      by_cases hok : (a && a2) = false
      · have hcont : Hid (rdC s.data.toList b = .cont) := by show _ = _; rw [HXb.out, if_pos (by rw [HOb.out]; exact hok)]
        have hcc := Lib.hid (HF.out.1 hcont.out)
        clear hcont HXb HOb HF HRb HLb
        have h3 : (a = false ∧ a2 = false) ∨ (a = false ∧ a2 = true) ∨ (a = true ∧ a2 = false) := by cases a <;> cases a2 <;> simp_all
        clear hok
        rcases h3 with ⟨rfl, rfl⟩ | ⟨rfl, rfl⟩ | ⟨rfl, rfl⟩
        all_goals
          go_wp2_with fail
          refine (A0.out _).mono ?_
          rintro e w' ⟨rfl, rfl⟩
          go_wp2_with fail
          refine (HP.out _).mono ?_
          rintro e w' ⟨rfl, rfl⟩
          go_wp2_with fail
          refine (AE.out _).mono ?_
          rintro e w' ⟨rfl, rfl⟩
          go_wp2_with fail
          refine (HQb.out _).mono ?_
          rintro e w' ⟨rfl, rfl⟩
          go_wp2_with fail
          go_roundw
          case rel => exact ⟨k + 1, by omega, by go_num, hcc.out.1, hcc.out.2, hR, hB⟩
          case measure => simp [intOf]; omega
      · have hok' : okC s.data.toList b = true := by rw [HOb.out]; simpa using hok
        obtain ⟨rfl, rfl⟩ : a = true ∧ a2 = true := by cases a <;> cases a2 <;> simp_all
        rw [hok', if_neg (by simp)] at HXb
        clear hok hok' HOb
        have hlt0 := hR.lt
        cases hj : readJ inl with
        | none =>
          rw [hj] at HXb HRb
          have hstop := Lib.hid (HF.out.2.1 HXb.out)
          clear HXb HF HLb hj
          unfold readV at HRb
          dsimp only at HRb
          go_wp2_with fail
          refine (A0.out _).mono ?_
          rintro e w' ⟨rfl, rfl⟩
          go_wp2_with fail
          refine (HP.out _).mono ?_
          rintro e w' ⟨rfl, rfl⟩
          go_wp2_with fail
          refine (AE.out _).mono ?_
          rintro e w' ⟨rfl, rfl⟩
          go_wp2_with fail
          refine (HQb.out _).mono ?_
          rintro e w' ⟨rfl, rfl⟩
          go_wp2_with fail
          refine (HRb.out _).mono ?_
          rintro e w3 ⟨rfl, b3⟩
          have hR3 := hR.below b3 hlt0
          have hB3 := hB.trans (b3.mono hB.size)
          have hlt3 := hR3.lt
          clear c0 c1 f0 f1 hR hB b3
          have c0 := hR3.cell 0
          have c1 := hR3.cell 1
          have f0 := hR3.frozen 0
          have f1 := hR3.frozen 1
          go_wp2_with fail
          have hF := (((hR3.set_ 0 (.string ⟨#[]⟩)).set_ 1 (.bool false)).alloc (.cells #[.string ⟨#[]⟩, .bool b] 24))
          have s0 : (World.alloc _ _).cell? _ = some (.string ⟨#[]⟩) := hF.cell 0
          have s1 : (World.alloc _ _).cell? _ = some (.bool false) := hF.cell 1
          exact bodyPost_ret (v := .tuple #[.agg #[.string ⟨#[]⟩, .bool false], .int .i64 7]) (by simp [results, Try.f12, go_sem, s0, s1]) rfl ⟨by rw [hstop.out]; rfl, (((hB3.setCell (p := ⟨w.heap.size, 0, none⟩) (Nat.le_refl _) _).setCell (p := ⟨w.heap.size, 1, none⟩) (Nat.le_refl _) _).alloc (by rw [size_setCell, size_setCell]; omega) _)⟩
        | some t =>
          rw [hj] at HXb HRb
          have htl := HLb.out t hj
          unfold readV at HRb
          dsimp only at HRb HXb
          clear HLb hj
          have hzt := strOf_size t
          by_cases h4 : 4000 < t.length
          · rw [if_pos h4] at HXb
            have hstop := Lib.hid (HF.out.2.1 HXb.out)
            have HFi := Lib.hid (fun w => fits_any (strOf t) b w (by omega))
            rw [decide_eq_false (by omega)] at HFi
            clear HXb HF h4
            generalize strOf t = tt at *
            go_wp2_with fail
            refine (A0.out _).mono ?_
            rintro e w' ⟨rfl, rfl⟩
            go_wp2_with fail
            refine (HP.out _).mono ?_
            rintro e w' ⟨rfl, rfl⟩
            go_wp2_with fail
            refine (AE.out _).mono ?_
            rintro e w' ⟨rfl, rfl⟩
            go_wp2_with fail
            refine (HQb.out _).mono ?_
            rintro e w' ⟨rfl, rfl⟩
            go_wp2_with fail
            refine (HRb.out _).mono ?_
            rintro e w3 ⟨rfl, b3⟩
            have hR3 := hR.below b3 hlt0
            have hB3 := hB.trans (b3.mono hB.size)
            have hlt3 := hR3.lt
            clear c0 c1 f0 f1 hR hB b3
            have c0 := hR3.cell 0
            have c1 := hR3.cell 1
            have f0 := hR3.frozen 0
            have f1 := hR3.frozen 1
            go_wp2_with fail
            refine (HFi.out _).mono ?_
            rintro e w4 ⟨rfl, b4⟩
            have hR4 := (hR3.alloc (.cells #[.string tt, .bool b] 24)).below b4 (by simp; omega)
            have hQ4 := (Blk.new w3 24 #[.string tt, .bool b]).below b4 (by simp)
            have hB3a := hB3.alloc (by omega) (.cells #[.string tt, .bool b] 24)
            have hB4 := hB3a.trans (b4.mono hB3a.size)
            have hlt4 := hR4.lt
            have hne : w3.heap.size ≠ w.heap.size := by omega
            clear c0 c1 f0 f1 hR3 hB3 b4 hB3a
            have c0 := hR4.cell 0
            have c1 := hR4.cell 1
            have f0 := hR4.frozen 0
            have f1 := hR4.frozen 1
            have q0 := hQ4.cell 0
            have q1 := hQ4.cell 1
            go_wp2_with fail
            have hF := ((hR4.set_ 0 (.string ⟨#[]⟩)).set_ 1 (.bool false))
            have s0 : (World.setCell _ _ _).cell? _ = some (.string ⟨#[]⟩) := hF.cell 0
            have s1 : (World.setCell _ _ _).cell? _ = some (.bool false) := hF.cell 1
            exact bodyPost_ret (v := .tuple #[.agg #[.string ⟨#[]⟩, .bool false], .int .i64 7]) (by simp [results, Try.f12, go_sem, s0, s1]) rfl ⟨by rw [hstop.out]; rfl, ((hB4.setCell (p := ⟨w.heap.size, 0, none⟩) (Nat.le_refl _) _).setCell (p := ⟨w.heap.size, 1, none⟩) (Nat.le_refl _) _)⟩
          · rw [if_neg h4] at HXb
            have HFi := Lib.hid (fun w => fits_any (strOf t) b w (by omega))
            rw [decide_eq_true (by omega)] at HFi
            have HBu := Lib.hid (fun w => chat_any (strOf t) b w (by omega))
            rw [strOf_list] at HBu
            unfold chatV at HBu
            by_cases hcl : clean t = t
            · rw [if_pos hcl] at HBu
              have hzc := chatL_size t b
              by_cases heq : chatL t b = s.data.toList
              · rw [if_pos ⟨hcl, heq⟩] at HXb
                have hret := Lib.hid (HF.out.2.2 _ HXb.out)
                have hself : (s.toList == s.toList) = true := by simp
                rw [HS.out _ heq] at HBu
                have HT := Lib.hid (rfl : strOf t = strOf t)
                clear HXb HF h4 hcl heq hzc
                obtain ⟨tt, htt⟩ : ∃ x, strOf t = x := ⟨_, rfl⟩
                have Htt := Lib.hid htt
                rw [htt] at HFi HBu HRb hzt
                clear htt HT
                go_wp2_with fail
                refine (A0.out _).mono ?_
                rintro e w' ⟨rfl, rfl⟩
                go_wp2_with fail
                refine (HP.out _).mono ?_
                rintro e w' ⟨rfl, rfl⟩
                go_wp2_with fail
                refine (AE.out _).mono ?_
                rintro e w' ⟨rfl, rfl⟩
                go_wp2_with fail
                refine (HQb.out _).mono ?_
                rintro e w' ⟨rfl, rfl⟩
                go_wp2_with fail
                refine (HRb.out _).mono ?_
                rintro e w3 ⟨rfl, b3⟩
                have hR3 := hR.below b3 hlt0
                have hB3 := hB.trans (b3.mono hB.size)
                have hlt3 := hR3.lt
                clear c0 c1 f0 f1 hR hB b3
                have c0 := hR3.cell 0
                have c1 := hR3.cell 1
                have f0 := hR3.frozen 0
                have f1 := hR3.frozen 1
                go_wp2_with fail
                refine (HFi.out _).mono ?_
                rintro e w4 ⟨rfl, b4⟩
                have hR4 := (hR3.alloc (.cells #[.string tt, .bool b] 24)).below b4 (by simp; omega)
                have hQ4 := (Blk.new w3 24 #[.string tt, .bool b]).below b4 (by simp)
                have hB3a := hB3.alloc (by omega) (.cells #[.string tt, .bool b] 24)
                have hB4 := hB3a.trans (b4.mono hB3a.size)
                have hlt4 := hR4.lt
                have hne : w3.heap.size ≠ w.heap.size := by omega
                clear c0 c1 f0 f1 hR3 hB3 b4 hB3a
                have c0 := hR4.cell 0
                have c1 := hR4.cell 1
                have f0 := hR4.frozen 0
                have f1 := hR4.frozen 1
                have q0 := hQ4.cell 0
                have q1 := hQ4.cell 1
                go_wp2_with fail
                refine (HBu.out _).mono ?_
                rintro e w5 ⟨rfl, b5⟩
                have hR5 := hR4.below b5 hR4.lt
                have hQ5 := hQ4.below b5 hQ4.lt
                have hB5 := hB4.trans (b5.mono hB4.size)
                clear c0 c1 f0 f1 q0 q1 hR4 hQ4 hB4 b5
                have c0 := hR5.cell 0
                have c1 := hR5.cell 1
                have f0 := hR5.frozen 0
                have f1 := hR5.frozen 1
                have q0 := hQ5.cell 0
                have q1 := hQ5.cell 1
                go_wp2_with fail
                have hF := ((hR5.set_ 0 (.string tt)).set_ 1 (.bool b))
                have s0 : (World.setCell _ _ _).cell? _ = some (.string tt) := hF.cell 0
                have s1 : (World.setCell _ _ _).cell? _ = some (.bool b) := hF.cell 1
                exact bodyPost_ret (v := .tuple #[.agg #[.string tt, .bool b], .int .i64 0]) (by simp [results, Try.f12, go_sem, s0, s1]) rfl ⟨by rw [hret.out, ← Htt.out]; rfl, ((hB5.setCell (p := ⟨w.heap.size, 0, none⟩) (Nat.le_refl _) _).setCell (p := ⟨w.heap.size, 1, none⟩) (Nat.le_refl _) _)⟩
              · rw [if_neg (fun h => heq h.2)] at HXb
                have hcc := Lib.hid (HF.out.1 HXb.out)
                have hne2 : ((strOf (chatL t b)).toList == s.toList) = false := by
                  rw [strOf_toL]; simp only [beq_eq_false_iff_ne, ne_eq]; rw [ByteArray.toList_eq]; exact heq
                clear HXb HF h4 hcl heq hzc
                generalize strOf (chatL t b) = x at *
                generalize strOf t = tt at *
                go_wp2_with fail
                refine (A0.out _).mono ?_
                rintro e w' ⟨rfl, rfl⟩
                go_wp2_with fail
                refine (HP.out _).mono ?_
                rintro e w' ⟨rfl, rfl⟩
                go_wp2_with fail
                refine (AE.out _).mono ?_
                rintro e w' ⟨rfl, rfl⟩
                go_wp2_with fail
                refine (HQb.out _).mono ?_
                rintro e w' ⟨rfl, rfl⟩
                go_wp2_with fail
                refine (HRb.out _).mono ?_
                rintro e w3 ⟨rfl, b3⟩
                have hR3 := hR.below b3 hlt0
                have hB3 := hB.trans (b3.mono hB.size)
                have hlt3 := hR3.lt
                clear c0 c1 f0 f1 hR hB b3
                have c0 := hR3.cell 0
                have c1 := hR3.cell 1
                have f0 := hR3.frozen 0
                have f1 := hR3.frozen 1
                go_wp2_with fail
                refine (HFi.out _).mono ?_
                rintro e w4 ⟨rfl, b4⟩
                have hR4 := (hR3.alloc (.cells #[.string tt, .bool b] 24)).below b4 (by simp; omega)
                have hQ4 := (Blk.new w3 24 #[.string tt, .bool b]).below b4 (by simp)
                have hB3a := hB3.alloc (by omega) (.cells #[.string tt, .bool b] 24)
                have hB4 := hB3a.trans (b4.mono hB3a.size)
                have hlt4 := hR4.lt
                have hne : w3.heap.size ≠ w.heap.size := by omega
                clear c0 c1 f0 f1 hR3 hB3 b4 hB3a
                have c0 := hR4.cell 0
                have c1 := hR4.cell 1
                have f0 := hR4.frozen 0
                have f1 := hR4.frozen 1
                have q0 := hQ4.cell 0
                have q1 := hQ4.cell 1
                go_wp2_with fail
                refine (HBu.out _).mono ?_
                rintro e w5 ⟨rfl, b5⟩
                have hR5 := hR4.below b5 hR4.lt
                have hQ5 := hQ4.below b5 hQ4.lt
                have hB5 := hB4.trans (b5.mono hB4.size)
                clear c0 c1 f0 f1 q0 q1 hR4 hQ4 hB4 b5
                have c0 := hR5.cell 0
                have c1 := hR5.cell 1
                have f0 := hR5.frozen 0
                have f1 := hR5.frozen 1
                have q0 := hQ5.cell 0
                have q1 := hQ5.cell 1
                go_wp2_with fail
                go_roundw
                case rel => exact ⟨k + 1, by omega, by go_num, hcc.out.1, hcc.out.2, hR5, hB5⟩
                case measure => simp [intOf]; omega
            · rw [if_neg hcl] at HBu
              rw [if_neg (fun h => hcl h.1)] at HXb
              have hcc := Lib.hid (HF.out.1 HXb.out)
              clear HXb HF h4 hcl
              generalize strOf t = tt at *
              go_wp2_with fail
              refine (A0.out _).mono ?_
              rintro e w' ⟨rfl, rfl⟩
              go_wp2_with fail
              refine (HP.out _).mono ?_
              rintro e w' ⟨rfl, rfl⟩
              go_wp2_with fail
              refine (AE.out _).mono ?_
              rintro e w' ⟨rfl, rfl⟩
              go_wp2_with fail
              refine (HQb.out _).mono ?_
              rintro e w' ⟨rfl, rfl⟩
              go_wp2_with fail
              refine (HRb.out _).mono ?_
              rintro e w3 ⟨rfl, b3⟩
              have hR3 := hR.below b3 hlt0
              have hB3 := hB.trans (b3.mono hB.size)
              have hlt3 := hR3.lt
              clear c0 c1 f0 f1 hR hB b3
              have c0 := hR3.cell 0
              have c1 := hR3.cell 1
              have f0 := hR3.frozen 0
              have f1 := hR3.frozen 1
              go_wp2_with fail
              refine (HFi.out _).mono ?_
              rintro e w4 ⟨rfl, b4⟩
              have hR4 := (hR3.alloc (.cells #[.string tt, .bool b] 24)).below b4 (by simp; omega)
              have hQ4 := (Blk.new w3 24 #[.string tt, .bool b]).below b4 (by simp)
              have hB3a := hB3.alloc (by omega) (.cells #[.string tt, .bool b] 24)
              have hB4 := hB3a.trans (b4.mono hB3a.size)
              have hlt4 := hR4.lt
              have hne : w3.heap.size ≠ w.heap.size := by omega
              clear c0 c1 f0 f1 hR3 hB3 b4 hB3a
              have c0 := hR4.cell 0
              have c1 := hR4.cell 1
              have f0 := hR4.frozen 0
              have f1 := hR4.frozen 1
              have q0 := hQ4.cell 0
              have q1 := hQ4.cell 1
              go_wp2_with fail
              refine (HBu.out _).mono ?_
              rintro e w5 ⟨rfl, b5⟩
              have hR5 := hR4.below b5 hR4.lt
              have hQ5 := hQ4.below b5 hQ4.lt
              have hB5 := hB4.trans (b5.mono hB4.size)
              clear c0 c1 f0 f1 q0 q1 hR4 hQ4 hB4 b5
              have c0 := hR5.cell 0
              have c1 := hR5.cell 1
              have f0 := hR5.frozen 0
              have f1 := hR5.frozen 1
              have q0 := hQ5.cell 0
              have q1 := hQ5.cell 1
              go_wp2_with fail
              go_roundw
              case rel => exact ⟨k + 1, by omega, by go_num, hcc.out.1, hcc.out.2, hR5, hB5⟩
              case measure => simp [intOf]; omega
    · obtain rfl : k = 2 := by omega
      have hn : Hid (chatRd s.data.toList = none) := by
        show _ = _
        rw [HZ.out _ _ (H1.out (by omega)) (H2.out (by omega))]
      have hlt0 := hR.lt
      clear HQ HRD HOK HX HLN HZ H1 H2 hlt hk
      go_wp2_with fail
      have hF := ((hR.set_ 0 (.string ⟨#[]⟩)).set_ 1 (.bool false))
      have s0 : (World.setCell _ _ _).cell? _ = some (.string ⟨#[]⟩) := hF.cell 0
      have s1 : (World.setCell _ _ _).cell? _ = some (.bool false) := hF.cell 1
      exact bodyPost_ret (v := .tuple #[.agg #[.string ⟨#[]⟩, .bool false], .int .i64 7]) (by simp [results, Try.f12, go_sem, s0, s1]) rfl ⟨by rw [hn.out]; rfl, ((hB.setCell (p := ⟨w.heap.size, 0, none⟩) (Nat.le_refl _) _).setCell (p := ⟨w.heap.size, 1, none⟩) (Nat.le_refl _) _)⟩
end Go.Proofs.Ytdmlciebkilmjaa

/- Walks: the reference's chat Read, what it gives up (chapter 38). -/
namespace Go.Proofs.Ytdmlciebkilmjaa
open Go.RowKit
set_option linter.unusedVariables false
set_option linter.unusedSimpArgs false
/-- What the reference reads. -/
def rdR (l : List UInt8) : Option (List UInt8 × Bool) := match parseJ l with
  | .error _ => none
  | .ok n => match n.kids with
    | [a, b] => if 4000 < a.text.length then none
      else if clean a.text = a.text ∧ chatL a.text (decide (b.text = [116, 114, 117, 101])) = l then some (a.text, decide (b.text = [116, 114, 117, 101])) else none
    | _ => none
theorem node_shape2 {w : World} {ok : Nat → Prop} {q : Nat} {t : List UInt8} {ks : List (List UInt8)} {ns : List Node} {a b c d : Value} (h : NodeW w ok (.mk q t ks ns) (.agg #[a, b, c, d])) :
    ∃ (u1 : Int) (u2 : ByteArray) (u3 : Option Addr) (u4 u5 : Nat) (u6 : Option Addr) (u8 : Nat), a = .int .u8 u1 ∧ b = .string u2 ∧ c = .slice u3 u4 u5 ∧ d = .slice u6 ns.length u8 := by
  unfold NodeW at h
  obtain ⟨kv, nv, cs, hv, h1, h2, _⟩ := h
  obtain ⟨o1, m1, c1, rfl⟩ := row_shape h1
  obtain ⟨o2, c2, rfl⟩ := row_len h2
  simp only [Value.agg.injEq, Array.mk.injEq, List.cons.injEq, and_true] at hv
  obtain ⟨rfl, rfl, rfl, rfl⟩ := hv
  exact ⟨_, _, _, _, _, _, _, rfl, rfl, rfl, rfl⟩
theorem parseJ_err {l : List UInt8} {c : Nat} (h : parseJ l = .error c) : c = 7 ∨ c = 8 := by
  unfold parseJ at h
  split at h
  · cases h; exact .inl rfl
  · split at h
    · cases h; exact .inl rfl
    · split at h
      · split at h
        · cases h; exact .inr rfl
        · cases h
      · cases h; exact .inl rfl
set_option maxRecDepth 100000 in
set_option maxHeartbeats 4000000 in
theorem rcread_err (s : ByteArray) (c : Nat) (w : World) (hs : s.size ≤ 60000) (hp : parseJ s.data.toList = .error c) :
    Calls Try.prog 13 #[.string s] w fun e w' => e = .returned (chatRV (rdR s.data.toList)) ∧ Below w.heap.size w w' := by
  have HV : Hid (rdR s.data.toList = none) := by show _ = _; unfold rdR; rw [hp]
  have HPa := Lib.hid (fun w => rparse_any s w (by omega))
  rw [hp] at HPa
  have HP : Hid (∀ w, Calls Try.prog 15 #[.string s] w fun e w' => e = .returned (.tuple #[.agg #[.int .u8 0, .string ⟨#[]⟩, .slice none 0 0, .slice none 0 0], .int .i64 c]) ∧ Below w.heap.size w w') := HPa
  have d1 : ((c : Int) != 0) = true := by simp only [bne_iff_ne]; rcases parseJ_err hp with h | h <;> omega
  have hR := Blk.new w 24 #[.string ⟨#[]⟩, .bool false]
  have HB1 : Hid (Below w.heap.size w (w.alloc (.cells #[.string ⟨#[]⟩, .bool false] 24))) := (Below.refl _ w).alloc (Nat.le_refl _) _
  have hRl := hR.lt
  have HR := Lib.hid hR
  clear HPa hp hR
  go_enter Try.func13, Try.ntmps13
  go_wp2_with (go_at_call 15; refine (HP.out _).mono ?_; rintro e w2 ⟨rfl, hb2⟩; have hs2 := hb2.size; have hR3 := (HR.out.below hb2 hRl).alloc (.cells #[.int .u8 0, .string ⟨#[]⟩, .slice none 0 0, .slice none 0 0] 37); have r0 := hR3.cell 0; have r1 := hR3.cell 1; have f0 := hR3.frozen 0; have f1 := hR3.frozen 1)
  have hB2 := (HB1.out.trans (hb2.mono (Nat.le_of_lt hRl))).alloc (by have := hb2.size; omega) (.cells #[.int .u8 0, .string ⟨#[]⟩, .slice none 0 0, .slice none 0 0] 37)
  have hF := (hR3.set_ 0 (.string ⟨#[]⟩)).set_ 1 (.bool false)
  have s0 : (World.setCell _ _ _).cell? _ = some (.string ⟨#[]⟩) := hF.cell 0
  have s1 : (World.setCell _ _ _).cell? _ = some (.bool false) := hF.cell 1
  exact bodyPost_ret (v := .tuple #[.agg #[.string ⟨#[]⟩, .bool false], .int .i64 7]) (by simp [results, Try.f13, go_sem, s0, s1]) rfl ⟨by rw [HV.out]; rfl, (hB2.setCell (p := ⟨w.heap.size, 0, none⟩) (Nat.le_refl _) _).setCell (p := ⟨w.heap.size, 1, none⟩) (Nat.le_refl _) _⟩
set_option maxRecDepth 100000 in
set_option maxHeartbeats 4000000 in
theorem rcread_few (s : ByteArray) (q : Nat) (t : List UInt8) (ks : List (List UInt8)) (ns : List Node) (w : World) (hs : s.size ≤ 60000) (hp : parseJ s.data.toList = .ok (.mk q t ks ns)) (hn2 : ns.length ≠ 2) :
    Calls Try.prog 13 #[.string s] w fun e w' => e = .returned (chatRV (rdR s.data.toList)) ∧ Below w.heap.size w w' := by
  have HV : Hid (rdR s.data.toList = none) := by
    show _ = _; unfold rdR; rw [hp]
    show (match ns with | [a, b] => _ | _ => none) = none
    split
    · exact absurd rfl hn2
    · rfl
  have HPa := Lib.hid (fun w => rparse_any s w (by omega))
  rw [hp] at HPa
  have HP : Hid (∀ w, Calls Try.prog 15 #[.string s] w fun e w' => (∃ a b c d, e = .returned (.tuple #[.agg #[a, b, c, d], .int .i64 0]) ∧ NodeW w' (fun g => w.heap.size ≤ g) (.mk q t ks ns) (.agg #[a, b, c, d])) ∧ Below w.heap.size w w') := HPa
  have d1 : ((ns.length : Int) != 2) = true := by simp only [bne_iff_ne]; omega
  have hR := Blk.new w 24 #[.string ⟨#[]⟩, .bool false]
  have HB1 : Hid (Below w.heap.size w (w.alloc (.cells #[.string ⟨#[]⟩, .bool false] 24))) := (Below.refl _ w).alloc (Nat.le_refl _) _
  have hRl := hR.lt
  have HR := Lib.hid hR
  clear HPa hp hR hn2
  go_enter Try.func13, Try.ntmps13
  go_wp2_with (go_at_call 15; refine (HP.out _).mono ?_; rintro e w2 ⟨⟨a, b, c, d, rfl, hn⟩, hb2⟩; obtain ⟨u1, u2, u3, u4, u5, o2, c2, rfl, rfl, rfl, rfl⟩ := node_shape2 hn; clear hn; have hs2 := hb2.size; have hR3 := (HR.out.below hb2 hRl).alloc (.cells #[.int .u8 u1, .string u2, .slice u3 u4 u5, .slice o2 ns.length c2] 37); have r0 := hR3.cell 0; have r1 := hR3.cell 1; have f0 := hR3.frozen 0; have f1 := hR3.frozen 1)
  have hB2 := (HB1.out.trans (hb2.mono (Nat.le_of_lt hRl))).alloc (by have := hb2.size; omega) (.cells #[.int .u8 u1, .string u2, .slice u3 u4 u5, .slice o2 ns.length c2] 37)
  have hF := (hR3.set_ 0 (.string ⟨#[]⟩)).set_ 1 (.bool false)
  have s0 : (World.setCell _ _ _).cell? _ = some (.string ⟨#[]⟩) := hF.cell 0
  have s1 : (World.setCell _ _ _).cell? _ = some (.bool false) := hF.cell 1
  exact bodyPost_ret (v := .tuple #[.agg #[.string ⟨#[]⟩, .bool false], .int .i64 7]) (by simp [results, Try.f13, go_sem, s0, s1]) rfl ⟨by rw [HV.out]; rfl, (hB2.setCell (p := ⟨w.heap.size, 0, none⟩) (Nat.le_refl _) _).setCell (p := ⟨w.heap.size, 1, none⟩) (Nat.le_refl _) _⟩
end Go.Proofs.Ytdmlciebkilmjaa

/- Walks: the reference's chat Read, a node of two kids (chapter 38). -/
namespace Go.Proofs.Ytdmlciebkilmjaa
open Go.RowKit
set_option linter.unusedVariables false
set_option linter.unusedSimpArgs false
theorem node_text {w : World} {ok : Nat → Prop} {n : Node} {a b c d : Value} (h : NodeW w ok n (.agg #[a, b, c, d])) : b = .string (strOf n.text) := by
  obtain ⟨k, t, ks, ns⟩ := n
  unfold NodeW at h
  obtain ⟨kv, nv, cs, hv, _⟩ := h
  simp only [Value.agg.injEq, Array.mk.injEq, List.cons.injEq, and_true] at hv
  exact hv.2.1
/-- A node of two kids in memory: their texts. -/
theorem node_two {w : World} {ok : Nat → Prop} {q : Nat} {t : List UInt8} {ks : List (List UInt8)} {n1 n2 : Node} {a b c d : Value} (h : NodeW w ok (.mk q t ks [n1, n2]) (.agg #[a, b, c, d])) :
    ∃ (u1 : Int) (u2 : ByteArray) (u3 : Option Addr) (u4 u5 g c2 : Nat), a = .int .u8 u1 ∧ b = .string u2 ∧ c = .slice u3 u4 u5 ∧ d = .slice (some ⟨g, 0, none⟩) 2 c2 ∧ g < w.heap.size ∧ ok g ∧
      w.cell? ⟨g, 1, none⟩ = some (.string (strOf n1.text)) ∧ w.cell? ⟨g, 5, none⟩ = some (.string (strOf n2.text)) := by
  unfold NodeW at h
  obtain ⟨kv, nv, cs, hv, h1, h2, h3⟩ := h
  obtain ⟨o1, m1, c1, rfl⟩ := row_shape h1
  simp only [Value.agg.injEq, Array.mk.injEq, List.cons.injEq, and_true] at hv
  obtain ⟨rfl, rfl, rfl, rfl⟩ := hv
  rcases h2 with ⟨_, h0, _⟩ | ⟨g, cap, rfl, hg, hl, hc⟩
  · cases h0
  · obtain ⟨_, b1, _, _, _, e1, _, _, x1⟩ := KidsW.at _ cs 0 n1 h3 rfl
    obtain ⟨_, b2, _, _, _, e2, _, _, x2⟩ := KidsW.at _ cs 1 n2 h3 rfl
    have y1 := node_text x1
    have y2 := node_text x2
    subst y1 y2
    exact ⟨_, _, _, _, _, g, cap, rfl, rfl, rfl, rfl, hl, hg, hc _ _ e1, hc _ _ e2⟩
set_option maxRecDepth 100000 in
set_option maxHeartbeats 4000000 in
theorem rcread_long (s : ByteArray) (q : Nat) (t : List UInt8) (ks : List (List UInt8)) (n1 n2 : Node) (w : World) (hs : s.size ≤ 60000) (hp : parseJ s.data.toList = .ok (.mk q t ks [n1, n2])) (hn2 : 4000 < n1.text.length) :
    Calls Try.prog 13 #[.string s] w fun e w' => e = .returned (chatRV (rdR s.data.toList)) ∧ Below w.heap.size w w' := by
  have HV : Hid (rdR s.data.toList = none) := by
    show _ = _; unfold rdR; rw [hp]
    show (if 4000 < n1.text.length then _ else _) = none
    rw [if_pos hn2]
  have HPa := Lib.hid (fun w => rparse_any s w (by omega))
  rw [hp] at HPa
  have HP : Hid (∀ w, Calls Try.prog 15 #[.string s] w fun e w' => (∃ a b c d, e = .returned (.tuple #[.agg #[a, b, c, d], .int .i64 0]) ∧ NodeW w' (fun g => w.heap.size ≤ g) (.mk q t ks [n1, n2]) (.agg #[a, b, c, d])) ∧ Below w.heap.size w w') := HPa
  have hxs : (strOf n1.text).size = n1.text.length := strOf_size _
  have hR := Blk.new w 24 #[.string ⟨#[]⟩, .bool false]
  have HB1 : Hid (Below w.heap.size w (w.alloc (.cells #[.string ⟨#[]⟩, .bool false] 24))) := (Below.refl _ w).alloc (Nat.le_refl _) _
  have hRl := hR.lt
  have HR := Lib.hid hR
  have d1 : (4000 : Int) < ((strOf n1.text).size : Int) := by omega
  generalize hxx : strOf n1.text = x at *
  have HXX := Lib.hid hxx
  clear HPa hp hR hn2 hxs hxx
  go_enter Try.func13, Try.ntmps13
  go_wp2_with (go_at_call 15; refine (HP.out _).mono ?_; rintro e w2 ⟨⟨a, b, c, d, rfl, hn⟩, hb2⟩; obtain ⟨u1, u2, u3, u4, u5, g, c2, rfl, rfl, rfl, rfl, hgl, hgo, y1, y5⟩ := node_two hn; clear hn; rw [HXX.out] at y1; have hs2 := hb2.size; have hR3 := (HR.out.below hb2 hRl).alloc (.cells #[.int .u8 u1, .string u2, .slice u3 u4 u5, .slice (some ⟨g, 0, none⟩) 2 c2] 37); have r0 := hR3.cell 0; have r1 := hR3.cell 1; have f0 := hR3.frozen 0; have f1 := hR3.frozen 1; have z1 := (((Below.refl w2.heap.size w2).alloc (Nat.le_refl _) (.cells #[.int .u8 u1, .string u2, .slice u3 u4 u5, .slice (some ⟨g, 0, none⟩) 2 c2] 37)).cell (p := ⟨g, 1, none⟩) hgl).trans y1)
  have hB2 := (HB1.out.trans (hb2.mono (Nat.le_of_lt hRl))).alloc (by have := hb2.size; omega) (.cells #[.int .u8 u1, .string u2, .slice u3 u4 u5, .slice (some ⟨g, 0, none⟩) 2 c2] 37)
  have hF := (hR3.set_ 0 (.string ⟨#[]⟩)).set_ 1 (.bool false)
  have s0 : (World.setCell _ _ _).cell? _ = some (.string ⟨#[]⟩) := hF.cell 0
  have s1 : (World.setCell _ _ _).cell? _ = some (.bool false) := hF.cell 1
  exact bodyPost_ret (v := .tuple #[.agg #[.string ⟨#[]⟩, .bool false], .int .i64 7]) (by simp [results, Try.f13, go_sem, s0, s1]) rfl ⟨by rw [HV.out]; rfl, (hB2.setCell (p := ⟨w.heap.size, 0, none⟩) (Nat.le_refl _) _).setCell (p := ⟨w.heap.size, 1, none⟩) (Nat.le_refl _) _⟩
end Go.Proofs.Ytdmlciebkilmjaa

/- Walks: the reference's chat Read, a node of two kids with a short text (chapter 38). -/
namespace Go.Proofs.Ytdmlciebkilmjaa
open Go.RowKit
set_option linter.unusedVariables false
set_option linter.unusedSimpArgs false
set_option maxRecDepth 100000 in
set_option maxHeartbeats 4000000 in
theorem rcread_short (s : ByteArray) (q : Nat) (t : List UInt8) (ks : List (List UInt8)) (n1 n2 : Node) (w : World) (hs : s.size ≤ 60000) (hp : parseJ s.data.toList = .ok (.mk q t ks [n1, n2])) (hn2 : ¬ 4000 < n1.text.length) :
    Calls Try.prog 13 #[.string s] w fun e w' => e = .returned (chatRV (rdR s.data.toList)) ∧ Below w.heap.size w w' := by
  have HV : Hid (rdR s.data.toList = if clean n1.text = n1.text ∧ chatL n1.text (decide (n2.text = [116, 114, 117, 101])) = s.data.toList then some (n1.text, decide (n2.text = [116, 114, 117, 101])) else none) := by
    show _ = _; unfold rdR; rw [hp]
    show (if 4000 < n1.text.length then _ else _) = _
    rw [if_neg hn2]
  have HPa := Lib.hid (fun w => rparse_any s w (by omega))
  rw [hp] at HPa
  have HP : Hid (∀ w, Calls Try.prog 15 #[.string s] w fun e w' => (∃ a b c d, e = .returned (.tuple #[.agg #[a, b, c, d], .int .i64 0]) ∧ NodeW w' (fun g => w.heap.size ≤ g) (.mk q t ks [n1, n2]) (.agg #[a, b, c, d])) ∧ Below w.heap.size w w') := HPa
  have hxs : (strOf n1.text).size = n1.text.length := strOf_size _
  have hR := Blk.new w 24 #[.string ⟨#[]⟩, .bool false]
  have HB1 : Hid (Below w.heap.size w (w.alloc (.cells #[.string ⟨#[]⟩, .bool false] 24))) := (Below.refl _ w).alloc (Nat.le_refl _) _
  have hRl := hR.lt
  have HR := Lib.hid hR
  have d1 : ¬ ((4000 : Int) < ((strOf n1.text).size : Int)) := by omega
  have hbu := fun b w => rchat_any (strOf n1.text) b w (by omega)
  rw [strOf_list] at hbu
  have HBu := Lib.hid hbu
  obtain ⟨bo, hbo⟩ : ∃ bo, decide (n2.text = [116, 114, 117, 101]) = bo := ⟨_, rfl⟩
  have hyb : ((strOf n2.text).toList == [116, 114, 117, 101]) = bo := by rw [← hbo, strOf_toL]; by_cases h : n2.text = [116, 114, 117, 101] <;> simp [h]
  rw [hbo] at HV
  have HS : Hid (∀ l : List UInt8, ((strOf l).toList == s.toList) = decide (l = s.data.toList)) := fun l => by rw [strOf_toL, ByteArray.toList_eq]; by_cases h : l = s.data.toList <;> simp [h]
  generalize hxx : strOf n1.text = x at *
  generalize hyy : strOf n2.text = y at *
  have HXX := Lib.hid hxx
  have HYY := Lib.hid hyy
  clear HPa hp hR hn2 hxs hxx hyy hbu hbo
  by_cases hc : clean n1.text = n1.text
  · have HE : Hid (∀ b, chatV n1.text b = .tuple #[.string (strOf (chatL n1.text b)), .int .i64 0]) := fun b => by unfold chatV; rw [if_pos hc]
    by_cases hq : chatL n1.text bo = s.data.toList
    · have HV2 : Hid (rdR s.data.toList = some (n1.text, bo)) := by show _ = _; rw [HV.out, if_pos ⟨hc, hq⟩]
      have hq2 := HS.out (chatL n1.text bo)
      rw [decide_eq_true hq] at hq2
      clear hc hq HS
      go_enter Try.func13, Try.ntmps13
      go_upto_region 4 with (go_at_call 15; refine (HP.out _).mono ?_; rintro e w2 ⟨⟨a, b, c, d, rfl, hn⟩, hb2⟩; obtain ⟨u1, u2, u3, u4, u5, g, c2, rfl, rfl, rfl, rfl, hgl, hgo, y1, y5⟩ := node_two hn; clear hn; rw [HXX.out] at y1; rw [HYY.out] at y5; have hs2 := hb2.size; have z1 := (((Below.refl w2.heap.size w2).alloc (Nat.le_refl _) (.cells #[.int .u8 u1, .string u2, .slice u3 u4 u5, .slice (some ⟨g, 0, none⟩) 2 c2] 37)).cell (p := ⟨g, 1, none⟩) hgl).trans y1)
      have z5 := (((Below.refl w2.heap.size w2).alloc (Nat.le_refl _) (.cells #[.int .u8 u1, .string u2, .slice u3 u4 u5, .slice (some ⟨g, 0, none⟩) 2 c2] 37)).cell (p := ⟨g, 5, none⟩) hgl).trans y5
      have hK := Blk.new w2 37 #[.int .u8 u1, .string u2, .slice u3 u4 u5, .slice (some ⟨g, 0, none⟩) 2 c2]
      have HR3 := Lib.hid ((HR.out.below hb2 hRl).alloc (.cells #[.int .u8 u1, .string u2, .slice u3 u4 u5, .slice (some ⟨g, 0, none⟩) 2 c2] 37))
      have hB2 := (HB1.out.trans (hb2.mono (Nat.le_of_lt hRl))).alloc (by have := hb2.size; omega) (.cells #[.int .u8 u1, .string u2, .slice u3 u4 u5, .slice (some ⟨g, 0, none⟩) 2 c2] 37)
      obtain ⟨W, hW⟩ : ∃ W, w2.alloc (.cells #[.int .u8 u1, .string u2, .slice u3 u4 u5, .slice (some ⟨g, 0, none⟩) 2 c2] 37) = W := ⟨_, rfl⟩
      have hgl2 : g < (w2.alloc (.cells #[.int .u8 u1, .string u2, .slice u3 u4 u5, .slice (some ⟨g, 0, none⟩) 2 c2] 37)).heap.size := by simp; omega
      rw [hW] at z1 z5 hK HR3 hB2 hgl2 ⊢
      have k3 := hK.cell 3
      clear hW
      go_wp2_with fail
      have hKl := hK.lt
      have hgW : g < W.heap.size := hgl2
      have HC : Hid (∀ w', Below W.heap.size W w' → w'.cell? ⟨w2.heap.size, 3, none⟩ = some (.slice (some ⟨g, 0, none⟩) 2 c2) ∧ w'.cell? ⟨g, 1, none⟩ = some (.string x) ∧ w'.cell? ⟨g, 5, none⟩ = some (.string y)) := fun w' h => ⟨(h.cell (p := ⟨w2.heap.size, 3, none⟩) hKl).trans k3, (h.cell (p := ⟨g, 1, none⟩) hgW).trans z1, (h.cell (p := ⟨g, 5, none⟩) hgW).trans z5⟩
      go_region_held3 (fun w' => w'.cell? ⟨w2.heap.size, 3, none⟩ = some (.slice (some ⟨g, 0, none⟩) 2 c2) ∧ w'.cell? ⟨g, 1, none⟩ = some (.string x) ∧ w'.cell? ⟨g, 5, none⟩ = some (.string y)) (first | exact HC.out _ (Below.refl _ _) | exact HC.out _ (below_drew' (Below.refl _ _)) | exact HC.out _ (below_drew' ((Below.refl _ _).alloc (Nat.le_refl _) _)) | exact HC.out _ ((below_drew' (Below.refl _ _)).alloc (Nat.le_refl _) _)) (fail)
      go_wp2_with fail
      refine (HBu.out _ _).mono ?_
      rintro e w5 ⟨he, hb5⟩
      rw [HE.out] at he
      subst he
      have hs5 := hb5.size
      have hR3 := ((HR3.out.alloc (.cells #[.string x, .bool bo] 24)).drew).below hb5 (by have := HR3.out.lt; simp; omega)
      have r0 := hR3.cell 0
      have r1 := hR3.cell 1
      have f0 := hR3.frozen 0
      have f1 := hR3.frozen 1
      have hK5 := ((Blk.new W 24 #[.string x, .bool bo]).drew).below hb5 (by simp)
      have p0 := hK5.cell 0
      have p1 := hK5.cell 1
      have hB5 := (below_drew' (hB2.alloc (by have := hB2.size; omega) (.cells #[.string x, .bool bo] 24))).trans (hb5.mono (by have := hB2.size; simp; have := HR3.out.lt; omega))
      clear z1 z5 k3 hK HBu HP
      go_wp2_with fail
      have hF := (hR3.set_ 0 (.string x)).set_ 1 (.bool bo)
      have s0 : (World.setCell _ _ _).cell? _ = some (.string x) := hF.cell 0
      have s1 : (World.setCell _ _ _).cell? _ = some (.bool bo) := hF.cell 1
      exact bodyPost_ret (v := .tuple #[.agg #[.string x, .bool bo], .int .i64 0]) (by simp [results, Try.f13, go_sem, s0, s1]) rfl ⟨by rw [HV2.out, ← HXX.out]; rfl, (hB5.setCell (p := ⟨w.heap.size, 0, none⟩) (Nat.le_refl _) _).setCell (p := ⟨w.heap.size, 1, none⟩) (Nat.le_refl _) _⟩
    · have HV2 : Hid (rdR s.data.toList = none) := by show _ = _; rw [HV.out, if_neg (fun h => hq h.2)]
      have hq2 := HS.out (chatL n1.text bo)
      rw [decide_eq_false hq] at hq2
      clear hc hq HS
      go_enter Try.func13, Try.ntmps13
      go_upto_region 4 with (go_at_call 15; refine (HP.out _).mono ?_; rintro e w2 ⟨⟨a, b, c, d, rfl, hn⟩, hb2⟩; obtain ⟨u1, u2, u3, u4, u5, g, c2, rfl, rfl, rfl, rfl, hgl, hgo, y1, y5⟩ := node_two hn; clear hn; rw [HXX.out] at y1; rw [HYY.out] at y5; have hs2 := hb2.size; have z1 := (((Below.refl w2.heap.size w2).alloc (Nat.le_refl _) (.cells #[.int .u8 u1, .string u2, .slice u3 u4 u5, .slice (some ⟨g, 0, none⟩) 2 c2] 37)).cell (p := ⟨g, 1, none⟩) hgl).trans y1)
      have z5 := (((Below.refl w2.heap.size w2).alloc (Nat.le_refl _) (.cells #[.int .u8 u1, .string u2, .slice u3 u4 u5, .slice (some ⟨g, 0, none⟩) 2 c2] 37)).cell (p := ⟨g, 5, none⟩) hgl).trans y5
      have hK := Blk.new w2 37 #[.int .u8 u1, .string u2, .slice u3 u4 u5, .slice (some ⟨g, 0, none⟩) 2 c2]
      have HR3 := Lib.hid ((HR.out.below hb2 hRl).alloc (.cells #[.int .u8 u1, .string u2, .slice u3 u4 u5, .slice (some ⟨g, 0, none⟩) 2 c2] 37))
      have hB2 := (HB1.out.trans (hb2.mono (Nat.le_of_lt hRl))).alloc (by have := hb2.size; omega) (.cells #[.int .u8 u1, .string u2, .slice u3 u4 u5, .slice (some ⟨g, 0, none⟩) 2 c2] 37)
      obtain ⟨W, hW⟩ : ∃ W, w2.alloc (.cells #[.int .u8 u1, .string u2, .slice u3 u4 u5, .slice (some ⟨g, 0, none⟩) 2 c2] 37) = W := ⟨_, rfl⟩
      have hgl2 : g < (w2.alloc (.cells #[.int .u8 u1, .string u2, .slice u3 u4 u5, .slice (some ⟨g, 0, none⟩) 2 c2] 37)).heap.size := by simp; omega
      rw [hW] at z1 z5 hK HR3 hB2 hgl2 ⊢
      have k3 := hK.cell 3
      clear hW
      go_wp2_with fail
      have hKl := hK.lt
      have hgW : g < W.heap.size := hgl2
      have HC : Hid (∀ w', Below W.heap.size W w' → w'.cell? ⟨w2.heap.size, 3, none⟩ = some (.slice (some ⟨g, 0, none⟩) 2 c2) ∧ w'.cell? ⟨g, 1, none⟩ = some (.string x) ∧ w'.cell? ⟨g, 5, none⟩ = some (.string y)) := fun w' h => ⟨(h.cell (p := ⟨w2.heap.size, 3, none⟩) hKl).trans k3, (h.cell (p := ⟨g, 1, none⟩) hgW).trans z1, (h.cell (p := ⟨g, 5, none⟩) hgW).trans z5⟩
      go_region_held3 (fun w' => w'.cell? ⟨w2.heap.size, 3, none⟩ = some (.slice (some ⟨g, 0, none⟩) 2 c2) ∧ w'.cell? ⟨g, 1, none⟩ = some (.string x) ∧ w'.cell? ⟨g, 5, none⟩ = some (.string y)) (first | exact HC.out _ (Below.refl _ _) | exact HC.out _ (below_drew' (Below.refl _ _)) | exact HC.out _ (below_drew' ((Below.refl _ _).alloc (Nat.le_refl _) _)) | exact HC.out _ ((below_drew' (Below.refl _ _)).alloc (Nat.le_refl _) _)) (fail)
      go_wp2_with fail
      refine (HBu.out _ _).mono ?_
      rintro e w5 ⟨he, hb5⟩
      rw [HE.out] at he
      subst he
      have hs5 := hb5.size
      have hR3 := ((HR3.out.alloc (.cells #[.string x, .bool bo] 24)).drew).below hb5 (by have := HR3.out.lt; simp; omega)
      have r0 := hR3.cell 0
      have r1 := hR3.cell 1
      have f0 := hR3.frozen 0
      have f1 := hR3.frozen 1
      have hK5 := ((Blk.new W 24 #[.string x, .bool bo]).drew).below hb5 (by simp)
      have p0 := hK5.cell 0
      have p1 := hK5.cell 1
      have hB5 := (below_drew' (hB2.alloc (by have := hB2.size; omega) (.cells #[.string x, .bool bo] 24))).trans (hb5.mono (by have := hB2.size; simp; have := HR3.out.lt; omega))
      clear z1 z5 k3 hK HBu HP
      go_wp2_with fail
      have hF := (hR3.set_ 0 (.string ⟨#[]⟩)).set_ 1 (.bool false)
      have s0 : (World.setCell _ _ _).cell? _ = some (.string ⟨#[]⟩) := hF.cell 0
      have s1 : (World.setCell _ _ _).cell? _ = some (.bool false) := hF.cell 1
      exact bodyPost_ret (v := .tuple #[.agg #[.string ⟨#[]⟩, .bool false], .int .i64 7]) (by simp [results, Try.f13, go_sem, s0, s1]) rfl ⟨by rw [HV2.out]; rfl, (hB5.setCell (p := ⟨w.heap.size, 0, none⟩) (Nat.le_refl _) _).setCell (p := ⟨w.heap.size, 1, none⟩) (Nat.le_refl _) _⟩
  · have HE : Hid (∀ b, chatV n1.text b = .tuple #[.string ⟨#[]⟩, .int .i64 7]) := fun b => by unfold chatV; rw [if_neg hc]
    have HV2 : Hid (rdR s.data.toList = none) := by show _ = _; rw [HV.out, if_neg (fun h => hc h.1)]
    clear hc HS
    go_enter Try.func13, Try.ntmps13
    go_upto_region 4 with (go_at_call 15; refine (HP.out _).mono ?_; rintro e w2 ⟨⟨a, b, c, d, rfl, hn⟩, hb2⟩; obtain ⟨u1, u2, u3, u4, u5, g, c2, rfl, rfl, rfl, rfl, hgl, hgo, y1, y5⟩ := node_two hn; clear hn; rw [HXX.out] at y1; rw [HYY.out] at y5; have hs2 := hb2.size; have z1 := (((Below.refl w2.heap.size w2).alloc (Nat.le_refl _) (.cells #[.int .u8 u1, .string u2, .slice u3 u4 u5, .slice (some ⟨g, 0, none⟩) 2 c2] 37)).cell (p := ⟨g, 1, none⟩) hgl).trans y1)
    have z5 := (((Below.refl w2.heap.size w2).alloc (Nat.le_refl _) (.cells #[.int .u8 u1, .string u2, .slice u3 u4 u5, .slice (some ⟨g, 0, none⟩) 2 c2] 37)).cell (p := ⟨g, 5, none⟩) hgl).trans y5
    have hK := Blk.new w2 37 #[.int .u8 u1, .string u2, .slice u3 u4 u5, .slice (some ⟨g, 0, none⟩) 2 c2]
    have HR3 := Lib.hid ((HR.out.below hb2 hRl).alloc (.cells #[.int .u8 u1, .string u2, .slice u3 u4 u5, .slice (some ⟨g, 0, none⟩) 2 c2] 37))
    have hB2 := (HB1.out.trans (hb2.mono (Nat.le_of_lt hRl))).alloc (by have := hb2.size; omega) (.cells #[.int .u8 u1, .string u2, .slice u3 u4 u5, .slice (some ⟨g, 0, none⟩) 2 c2] 37)
    obtain ⟨W, hW⟩ : ∃ W, w2.alloc (.cells #[.int .u8 u1, .string u2, .slice u3 u4 u5, .slice (some ⟨g, 0, none⟩) 2 c2] 37) = W := ⟨_, rfl⟩
    have hgl2 : g < (w2.alloc (.cells #[.int .u8 u1, .string u2, .slice u3 u4 u5, .slice (some ⟨g, 0, none⟩) 2 c2] 37)).heap.size := by simp; omega
    rw [hW] at z1 z5 hK HR3 hB2 hgl2 ⊢
    have k3 := hK.cell 3
    clear hW
    go_wp2_with fail
    have hKl := hK.lt
    have hgW : g < W.heap.size := hgl2
    have HC : Hid (∀ w', Below W.heap.size W w' → w'.cell? ⟨w2.heap.size, 3, none⟩ = some (.slice (some ⟨g, 0, none⟩) 2 c2) ∧ w'.cell? ⟨g, 1, none⟩ = some (.string x) ∧ w'.cell? ⟨g, 5, none⟩ = some (.string y)) := fun w' h => ⟨(h.cell (p := ⟨w2.heap.size, 3, none⟩) hKl).trans k3, (h.cell (p := ⟨g, 1, none⟩) hgW).trans z1, (h.cell (p := ⟨g, 5, none⟩) hgW).trans z5⟩
    go_region_held3 (fun w' => w'.cell? ⟨w2.heap.size, 3, none⟩ = some (.slice (some ⟨g, 0, none⟩) 2 c2) ∧ w'.cell? ⟨g, 1, none⟩ = some (.string x) ∧ w'.cell? ⟨g, 5, none⟩ = some (.string y)) (first | exact HC.out _ (Below.refl _ _) | exact HC.out _ (below_drew' (Below.refl _ _)) | exact HC.out _ (below_drew' ((Below.refl _ _).alloc (Nat.le_refl _) _)) | exact HC.out _ ((below_drew' (Below.refl _ _)).alloc (Nat.le_refl _) _)) (fail)
    go_wp2_with fail
    refine (HBu.out _ _).mono ?_
    rintro e w5 ⟨he, hb5⟩
    rw [HE.out] at he
    subst he
    have hs5 := hb5.size
    have hR3 := ((HR3.out.alloc (.cells #[.string x, .bool bo] 24)).drew).below hb5 (by have := HR3.out.lt; simp; omega)
    have r0 := hR3.cell 0
    have r1 := hR3.cell 1
    have f0 := hR3.frozen 0
    have f1 := hR3.frozen 1
    have hK5 := ((Blk.new W 24 #[.string x, .bool bo]).drew).below hb5 (by simp)
    have p0 := hK5.cell 0
    have p1 := hK5.cell 1
    have hB5 := (below_drew' (hB2.alloc (by have := hB2.size; omega) (.cells #[.string x, .bool bo] 24))).trans (hb5.mono (by have := hB2.size; simp; have := HR3.out.lt; omega))
    clear z1 z5 k3 hK HBu HP
    go_wp2_with fail
    have hF := (hR3.set_ 0 (.string ⟨#[]⟩)).set_ 1 (.bool false)
    have s0 : (World.setCell _ _ _).cell? _ = some (.string ⟨#[]⟩) := hF.cell 0
    have s1 : (World.setCell _ _ _).cell? _ = some (.bool false) := hF.cell 1
    exact bodyPost_ret (v := .tuple #[.agg #[.string ⟨#[]⟩, .bool false], .int .i64 7]) (by simp [results, Try.f13, go_sem, s0, s1]) rfl ⟨by rw [HV2.out]; rfl, (hB5.setCell (p := ⟨w.heap.size, 0, none⟩) (Nat.le_refl _) _).setCell (p := ⟨w.heap.size, 1, none⟩) (Nat.le_refl _) _⟩
end Go.Proofs.Ytdmlciebkilmjaa

/- Plain: what is written of a post is read back. -/
namespace Go.Proofs.Ytdmlciebkilmjaa
set_option linter.unusedVariables false
set_option linter.unusedSimpArgs false
def encs (ms : List Nat) : List UInt8 := ms.flatMap fun m : Nat => enc (m : Int)
def mild (m : Nat) : Prop := shownN m = m ∧ m ≠ 13
theorem encs_nil : encs [] = [] := rfl
theorem encs_cons (m : Nat) (ms : List Nat) : encs (m :: ms) = enc (m : Int) ++ encs ms := by unfold encs; rw [List.flatMap_cons]
theorem encs_append (a b : List Nat) : encs (a ++ b) = encs a ++ encs b := by unfold encs; rw [List.flatMap_append]
theorem clean_form (l : List UInt8) : ∃ ms, clean l = encs ms ∧ ∀ m ∈ ms, mild m :=
  clean_ind (P := fun _ t => ∃ ms, t = encs ms ∧ ∀ m ∈ ms, mild m) ⟨[], rfl, fun m h => by cases h⟩ (fun _ _ h _ => h)
    (fun _ t m h1 h2 ⟨ms, h3, h4⟩ _ => ⟨m :: ms, by rw [encs_cons, h3], fun x hx => by
      rcases List.mem_cons.1 hx with rfl | hx
      · exact ⟨h1, h2⟩
      · exact h4 x hx⟩) _ l (Nat.le_refl _)
theorem clean_encs : ∀ ms : List Nat, (∀ m ∈ ms, mild m) → clean (encs ms) = encs ms
  | [], _ => clean_nil
  | m :: ms, h => by
    rw [encs_cons, clean_enc m _ (h m (by simp)).1 (h m (by simp)).2, clean_encs ms (fun x hx => h x (by simp [hx]))]
theorem good_encs : ∀ ms : List Nat, good (encs ms) = true
  | [] => good_nil
  | m :: ms => by rw [encs_cons, good_enc, good_encs ms]
theorem front_encs : ∀ (ms : List Nat) (k : Int), ∃ a b, ms = a ++ b ∧ (encs ms).take (front (encs ms) k) = encs a
  | [], k => ⟨[], [], rfl, by rw [encs_nil, front_nil]; rfl⟩
  | m :: ms, k => by
    rw [encs_cons, front_cons _ (app_ne _ _), next_enc, drop_enc]
    dsimp only
    split
    · exact ⟨[], m :: ms, rfl, by simp [encs_nil]⟩
    · obtain ⟨a, b, h1, h2⟩ := front_encs ms (k - (enc (m : Int)).length)
      refine ⟨m :: a, b, by rw [h1]; rfl, ?_⟩
      rw [encs_cons, List.take_append, List.take_of_length_le (by omega), Nat.add_sub_cancel_left, h2]
theorem cut_encs {ms : List Nat} (h : ∀ m ∈ ms, mild m) (n : Nat) : ∃ us, cutL (encs ms) n = encs us ∧ ∀ m ∈ us, mild m := by
  unfold cutL
  split
  · exact ⟨ms, rfl, h⟩
  · obtain ⟨a, b, h1, h2⟩ := front_encs ms ((n : Int) - 3)
    refine ⟨a ++ [8230], ?_, ?_⟩
    · rw [h2, encs_append]; rfl
    · intro m hm
      rcases List.mem_append.1 hm with hm | hm
      · exact h m (by rw [h1]; exact List.mem_append.2 (.inl hm))
      · rw [List.mem_singleton] at hm; subst hm; exact ⟨by decide, by decide⟩
/-- What a text that is sanitised is cut to. -/
theorem cut_clean {t : List UInt8} (h : clean t = t) : clean (cutL t 4000) = cutL t 4000 ∧ good (cutL t 4000) = true := by
  obtain ⟨ms, h1, h2⟩ := clean_form t
  rw [h] at h1
  obtain ⟨us, h3, h4⟩ := cut_encs h2 4000
  rw [h1, h3]
  exact ⟨clean_encs us h4, good_encs us⟩
theorem cut_cut (t : List UInt8) : cutL (cutL t 4000) 4000 = cutL t 4000 := by
  have := cutL_length t 4000 (by omega)
  generalize cutL t 4000 = u at *
  unfold cutL; rw [if_pos this]
theorem hasPre_self (a b : List UInt8) : Lib.hasPrefix (a ++ b) a = true := by
  unfold Lib.hasPrefix; rw [List.isPrefixOf_iff_prefix]; exact ⟨b, rfl⟩
theorem hasSuf_self (a b : List UInt8) : Lib.hasSuffix (a ++ b) b = true := by
  unfold Lib.hasSuffix; rw [List.isSuffixOf_iff_suffix]; exact ⟨a, rfl⟩
theorem cutPre_chat (x : List UInt8) (b : Bool) : cutPreL (preC ++ x ++ endC b) preC = x ++ endC b := by
  unfold cutPreL
  rw [List.append_assoc, if_pos (hasPre_self _ _), List.drop_left]
theorem okC_self (x : List UInt8) (b : Bool) : okC (preC ++ x ++ endC b) b = true := by
  unfold okC
  rw [cutPre_chat, hasSuf_self, List.append_assoc, hasPre_self]; rfl
theorem inC_self (x : List UInt8) (b : Bool) : inC (preC ++ x ++ endC b) b = x := by
  unfold inC
  rw [cutPre_chat]
  unfold cutSufL
  rw [if_pos (hasSuf_self _ _), List.length_append, Nat.add_sub_cancel, List.take_left]
theorem suf_other (x : List UInt8) (b : Bool) : Lib.hasSuffix (x ++ endC b) (endC !b) = false := by
  rw [Bool.eq_false_iff]
  intro h
  unfold Lib.hasSuffix at h
  obtain ⟨y, hy⟩ := List.isSuffixOf_iff_suffix.1 h
  have h2 := congrArg (fun l => l.reverse.take 5) hy
  simp only [List.reverse_append] at h2
  cases b
  · have e1 : ((endC true).reverse ++ y.reverse).take 5 = [125, 101, 117, 114, 116] := rfl
    have e2 : ((endC false).reverse ++ x.reverse).take 5 = [125, 101, 115, 108, 97] := rfl
    rw [show (endC !false) = endC true from rfl, e1, e2] at h2
    revert h2; decide
  · have e1 : ((endC false).reverse ++ y.reverse).take 5 = [125, 101, 115, 108, 97] := rfl
    have e2 : ((endC true).reverse ++ x.reverse).take 5 = [125, 101, 117, 114, 116] := rfl
    rw [show (endC !true) = endC false from rfl, e1, e2] at h2
    revert h2; decide
theorem okC_other (x : List UInt8) (b : Bool) : okC (preC ++ x ++ endC b) (!b) = false := by
  unfold okC
  rw [cutPre_chat, suf_other, Bool.and_false]
/-- What is written of a post is read back. -/
theorem chat_back {t : List UInt8} (h : clean t = t) (b : Bool) : chatRd (chatL t b) = some (cutL t 4000, b) := by
  obtain ⟨hc, hg⟩ := cut_clean h
  have hl := cutL_length t 4000 (by omega)
  have hcc := cut_cut t
  have hr : readJ (writeJ (cutL t 4000)) = some (cutL t 4000) := by rw [read_write, joined_good _ _ (Nat.le_refl _) hg]
  have hret : rdC (chatL t b) b = .ret (cutL t 4000) := by
    unfold rdC
    have e : chatL (cutL t 4000) b = chatL t b := by unfold chatL; rw [hcc]
    have e1 : okC (chatL t b) b = true := okC_self _ _
    have e2 : inC (chatL t b) b = writeJ (cutL t 4000) := inC_self _ _
    rw [e1, if_neg (by simp), e2, hr]
    dsimp only
    rw [if_neg (by omega), if_pos ⟨hc, e⟩]
  unfold chatRd
  cases b
  · have e1 : rdC (chatL t false) true = .cont := by
      unfold rdC
      have : okC (chatL t false) true = false := okC_other _ false
      rw [if_pos this]
    rw [e1, hret]
  · rw [hret]
end Go.Proofs.Ytdmlciebkilmjaa

/- Plain: tokens of a text behind another; a written string is one token. -/
namespace Go.Proofs.Ytdmlciebkilmjaa
set_option linter.unusedVariables false
set_option linter.unusedSimpArgs false
def shiftT (d : Nat) (t : Tok) : Tok := ⟨t.kind, t.text, d + t.frm, d + t.to⟩
theorem digE_drop (l : List UInt8) (d k : Nat) : digE l (d + k) = d + digE (l.drop d) k := by
  unfold digE; rw [List.drop_drop]; omega
theorem numStart_drop (l : List UInt8) (d k : Nat) : numStart l (d + k) = d + numStart (l.drop d) k := by
  unfold numStart; rw [bt_drop]; split <;> omega
theorem numInt_drop (l : List UInt8) (d k : Nat) : numInt l (d + k) = d + numInt (l.drop d) k := by
  unfold numInt; rw [bt_drop, digE_drop]; split <;> omega
theorem numFrac_drop (l : List UInt8) (d e : Nat) : numFrac l (d + e) = d + numFrac (l.drop d) e := by
  unfold numFrac
  rw [bt_drop, Nat.add_assoc, digE_drop]
  by_cases h : bt l (d + e) = 46 ∧ e + 1 < digE (l.drop d) (e + 1)
  · rw [if_pos h, if_pos ⟨h.1, by omega⟩]
  · rw [if_neg h, if_neg (fun x => h ⟨x.1, by have := x.2; omega⟩)]
theorem expStart_drop (l : List UInt8) (d e : Nat) : expStart l (d + e) = d + expStart (l.drop d) e := by
  unfold expStart; rw [bt_drop]; split <;> omega
theorem numExp_drop (l : List UInt8) (d e : Nat) : numExp l (d + e) = d + numExp (l.drop d) e := by
  unfold numExp
  rw [bt_drop, Nat.add_assoc, expStart_drop, digE_drop]
  by_cases h : bt l (d + e) = 101 ∨ bt l (d + e) = 69
  · rw [if_pos h, if_pos h]
    by_cases h2 : expStart (l.drop d) (e + 1) < digE (l.drop d) (expStart (l.drop d) (e + 1))
    · rw [if_pos h2, if_pos (by omega)]
    · rw [if_neg h2, if_neg (by omega)]
  · rw [if_neg h, if_neg h]
theorem numE_drop (l : List UInt8) (d k : Nat) : numE l (d + k) = (numE (l.drop d) k).map (d + ·) := by
  unfold numE
  rw [numStart_drop, digE_drop, numInt_drop, numFrac_drop, numExp_drop]
  by_cases h : digE (l.drop d) (numStart (l.drop d) k) = numStart (l.drop d) k
  · rw [if_pos h, if_pos (by omega)]; rfl
  · rw [if_neg h, if_neg (by omega)]; rfl
theorem atL_drop (l p : List UInt8) (d k : Nat) (h : d ≤ l.length) : atL l p (d + k) = atL (l.drop d) p k := by
  unfold atL
  rw [List.drop_drop, List.length_drop]
  congr 1
  exact decide_eq_decide.2 (by omega)
theorem oneT_drop (l : List UInt8) (d k : Nat) (h : d ≤ l.length) : oneT l (d + k) = (oneT (l.drop d) k).map (shiftT d) := by
  unfold oneT
  rw [bt_drop, atL_drop _ _ _ _ h, atL_drop _ _ _ _ h, atL_drop _ _ _ _ h, numE_drop, List.drop_drop, List.drop_drop, Nat.add_assoc d k 1]
  split
  · rfl
  split
  · cases strJ (l.drop (d + (k + 1))) with
    | none => rfl
    | some p => obtain ⟨t, n⟩ := p; simp only [Option.map_some, shiftT]; rw [Nat.add_assoc d]
  split
  · rfl
  split
  · rfl
  split
  · rfl
  cases numE (l.drop d) k with
  | none => rfl
  | some e => simp only [Option.map_some, shiftT]; rw [Nat.add_sub_add_left]
theorem toksAt_drop (l : List UInt8) (d : Nat) (h : d ≤ l.length) : ∀ (m k : Nat), l.length ≤ d + k + m → toksAt l (d + k) = (toksAt (l.drop d) k).map (List.map (shiftT d))
  | 0, k, hm => by rw [toksAt_end (by omega), toksAt_end (by rw [List.length_drop]; omega)]; rfl
  | m + 1, k, hm => by
    by_cases h1 : l.length ≤ d + k
    · rw [toksAt_end h1, toksAt_end (by rw [List.length_drop]; omega)]; rfl
    have h2 : k < (l.drop d).length := by rw [List.length_drop]; omega
    rw [toksAt_step (by omega), toksAt_step h2, bt_drop, oneT_drop l d k h]
    split
    · rw [Nat.add_assoc]; exact toksAt_drop l d h m (k + 1) (by omega)
    · cases ho : oneT (l.drop d) k with
      | none => rfl
      | some t =>
        have hb := oneT_bd h2 ho
        rw [List.length_drop] at hb
        simp only [Option.map_some]
        have := toksAt_drop l d h m t.to (by omega)
        rw [show (shiftT d t).to = d + t.to from rfl, this]
        cases toksAt (l.drop d) t.to with
        | none => rfl
        | some ts => rfl
theorem toksAt_zero (l : List UInt8) (d : Nat) (h : d ≤ l.length) : toksAt l d = (toks (l.drop d)).map (List.map (shiftT d)) := toksAt_drop l d h l.length 0 (by omega)
theorem toks_step {l : List UInt8} (h : l ≠ []) : toks l = if blankK (bt l 0) then toks (l.drop 1) |>.map (List.map (shiftT 1)) else
    match oneT l 0 with
    | none => none
    | some t => ((toks (l.drop t.to)).map (List.map (shiftT t.to))).map (t :: ·) := by
  have hl := List.length_pos_iff.2 h
  unfold toks
  rw [toksAt_step hl]
  split
  · exact toksAt_zero l 1 hl
  · cases ho : oneT l 0 with
    | none => rfl
    | some t =>
      have hb := oneT_bd hl ho
      dsimp only
      rw [toksAt_zero l t.to hb.2.2.1]; rfl
/-- The first byte of what a rune is written as ends no string. -/
theorem wrJ_head {n : Nat} (hr : isRune (n : Int)) (t : List UInt8) : bt (wrJ n ++ t) 0 ≠ 34 := by
  by_cases h1 : letN n = 0
  · by_cases h2 : longN n
    · rw [wrJ_long h1 h2]; exact (by decide : (92 : Nat) ≠ 34)
    · rw [wrJ_self h1 h2]
      have hs := letN_special h1
      have hh := enc_head hr t
      omega
  · rw [wrJ_short h1]; exact (by decide : (92 : Nat) ≠ 34)
theorem str_wr : ∀ (rs : List Nat) (t : List UInt8), (∀ r ∈ rs, isRune (r : Int)) → strJ (rs.flatMap wrJ ++ 34 :: t) = some (joined rs, (rs.flatMap wrJ).length + 1)
  | [], t, _ => by
    rw [strJ_step (by simp), if_pos (by rfl)]; rfl
  | r :: rs, t, h => by
    have hr := h r (by simp)
    have hl := wrJ_length r
    rw [List.flatMap_cons, List.append_assoc]
    have h0 : wrJ r ++ (rs.flatMap wrJ ++ 34 :: t) ≠ [] := by
      intro e
      have := congrArg List.length e
      rw [List.length_append, List.length_nil] at this; omega
    rw [strJ_step h0, if_neg (wrJ_head hr _), oneJ_wr hr]
    dsimp only
    rw [List.drop_left, str_wr rs t (fun x hx => h x (by simp [hx]))]
    simp only [Option.map_some, List.length_append, Option.some.injEq, Prod.mk.injEq]
    exact ⟨rfl, by omega⟩
/-- A written string is one token. -/
theorem str_write (u t : List UInt8) : strJ (writeJ u ++ 34 :: t) = some (joined (runes u), (writeJ u).length + 1) := str_wr _ t (runes_rune _ u (Nat.le_refl _))
theorem toks_str {u : List UInt8} (hu : joined (runes u) = u) (t : List UInt8) : toks (34 :: (writeJ u ++ 34 :: t)) = ((toks t).map (List.map (shiftT ((writeJ u).length + 2)))).map (⟨34, u, 0, (writeJ u).length + 2⟩ :: ·) := by
  rw [toks_step (by simp), if_neg (show ¬ blankK (bt (34 :: (writeJ u ++ 34 :: t)) 0) from (by decide : ¬ blankK 34))]
  have h1 : oneT (34 :: (writeJ u ++ 34 :: t)) 0 = some ⟨34, u, 0, (writeJ u).length + 2⟩ := by
    unfold oneT
    rw [if_neg (show ¬ markK (bt (34 :: (writeJ u ++ 34 :: t)) 0) from (by decide : ¬ markK 34)), if_pos (show bt (34 :: (writeJ u ++ 34 :: t)) 0 = 34 from rfl)]
    rw [show (34 :: (writeJ u ++ 34 :: t)).drop (0 + 1) = writeJ u ++ 34 :: t from rfl, str_write, hu]
    dsimp only
    rw [show 0 + 1 + ((writeJ u).length + 1) = (writeJ u).length + 2 by omega]
  rw [h1]
  dsimp only
  rw [show (34 :: (writeJ u ++ 34 :: t)).drop ((writeJ u).length + 2) = t by
    rw [show (writeJ u).length + 2 = ((writeJ u).length + 1) + 1 by omega, List.drop_succ_cons, ← List.drop_drop, List.drop_left]; rfl]
/-- A mark is one token. -/
theorem toks_mark {c : UInt8} (hc : markK c.toNat) (t : List UInt8) : toks (c :: t) = ((toks t).map (List.map (shiftT 1))).map (⟨c.toNat, [], 0, 1⟩ :: ·) := by
  have hb : ¬ blankK c.toNat := by unfold markK at hc; unfold blankK; omega
  rw [toks_step (by simp)]
  rw [bt_c0, if_neg hb]
  have h1 : oneT (c :: t) 0 = some ⟨c.toNat, [], 0, 1⟩ := by
    unfold oneT; rw [bt_c0, if_pos hc]
  rw [h1]; rfl
/-- What the value of tokens depends on: their kinds and texts alone. -/
theorem shift_get (d : Nat) (ts : List Tok) (k : Nat) : (ts.map (shiftT d))[k]? = (ts[k]?).map (shiftT d) := by rw [List.getElem?_map]
end Go.Proofs.Ytdmlciebkilmjaa

/- Plain: what is written of a post is a map of two members; both readers read the same. -/
namespace Go.Proofs.Ytdmlciebkilmjaa
set_option linter.unusedVariables false
set_option linter.unusedSimpArgs false
def tText : List UInt8 := [116, 101, 120, 116]
def tLoud : List UInt8 := [108, 111, 117, 100]
theorem toks_end (b : Bool) : toks ((endC b).drop 1) = some [⟨44, [], 0, 1⟩, ⟨34, tLoud, 1, 7⟩, ⟨58, [], 7, 8⟩, ⟨97, wordC b, 8, if b then 12 else 13⟩, ⟨125, [], if b then 12 else 13, if b then 13 else 14⟩] := by
  cases b
  · rfl
  · rfl
theorem write_text : writeJ tText = tText := by rfl
theorem join_text : joined (runes tText) = tText := by rfl
/-- What is written of a post, as a tree. -/
def chatN (u : List UInt8) (b : Bool) : Node := .mk 123 [] [tText, tLoud] [.mk 34 u [] [], .mk 97 (wordC b) [] []]
theorem chat_parse {u : List UInt8} (hu : joined (runes u) = u) (b : Bool) : parseJ (preC ++ writeJ u ++ endC b) = .ok (chatN u b) := by
  have e1 : preC ++ writeJ u ++ endC b = 123 :: 34 :: (writeJ tText ++ 34 :: 58 :: 34 :: (writeJ u ++ 34 :: (endC b).drop 1)) := by
    rw [write_text]
    have e2 : endC b = 34 :: (endC b).drop 1 := by cases b <;> rfl
    rw [List.append_assoc]
    conv => lhs; rw [e2]
    rfl
  unfold parseJ
  rw [e1, toks_mark (c := 123) (by decide), toks_str join_text, toks_mark (c := 58) (by decide), toks_str hu, toks_end]
  cases b <;> rfl
theorem rdR_back {t : List UInt8} (h : clean t = t) (b : Bool) : rdR (chatL t b) = some (cutL t 4000, b) := by
  obtain ⟨hc, hg⟩ := cut_clean h
  have hl := cutL_length t 4000 (by omega)
  have hcc := cut_cut t
  have hj : joined (runes (cutL t 4000)) = cutL t 4000 := joined_good _ _ (Nat.le_refl _) hg
  have hp : parseJ (chatL t b) = .ok (chatN (cutL t 4000) b) := chat_parse hj b
  have hw : decide (wordC b = [116, 114, 117, 101]) = b := by cases b <;> decide
  have e : chatL (cutL t 4000) b = chatL t b := by unfold chatL; rw [hcc]
  unfold rdR
  rw [hp]
  show (if 4000 < (cutL t 4000).length then none else if clean (cutL t 4000) = cutL t 4000 ∧ chatL (cutL t 4000) (decide (wordC b = [116, 114, 117, 101])) = chatL t b then some (cutL t 4000, decide (wordC b = [116, 114, 117, 101])) else none) = _
  rw [if_neg (by omega), hw, if_pos ⟨hc, e⟩]
theorem rdC_some {l t : List UInt8} {b : Bool} (h : rdC l b = .ret t) : clean t = t ∧ chatL t b = l := by
  unfold rdC at h
  split at h
  · cases h
  split at h
  · cases h
  split at h
  · cases h
  split at h
  · rename_i h1; cases h; exact h1
  · cases h
theorem chatRd_some {l t : List UInt8} {b : Bool} (h : chatRd l = some (t, b)) : clean t = t ∧ chatL t b = l := by
  unfold chatRd at h
  split at h
  · rename_i u hu; cases h; exact rdC_some hu
  · cases h
  · split at h
    · rename_i u hu; cases h; exact rdC_some hu
    · cases h
theorem rdR_some {l t : List UInt8} {b : Bool} (h : rdR l = some (t, b)) : clean t = t ∧ chatL t b = l := by
  unfold rdR at h
  split at h
  · cases h
  split at h
  · split at h
    · cases h
    split at h
    · rename_i h1; cases h; exact h1
    · cases h
  · cases h
/-- Both readers read the same. -/
theorem rd_same (l : List UInt8) : chatRd l = rdR l := by
  cases h : chatRd l with
  | some p =>
    obtain ⟨t, b⟩ := p
    obtain ⟨h1, h2⟩ := chatRd_some h
    have h3 := chat_back h1 b
    have h4 := rdR_back h1 b
    rw [h2] at h3 h4
    rw [h4, ← h3, h]
  | none =>
    cases h5 : rdR l with
    | none => rfl
    | some p =>
      obtain ⟨t, b⟩ := p
      obtain ⟨h1, h2⟩ := rdR_some h5
      have h3 := chat_back h1 b
      rw [h2, h] at h3
      cases h3
end Go.Proofs.Ytdmlciebkilmjaa

/- Walks: the reference's chat Read as a whole; the law ChatReads. -/
namespace Go.Proofs.Ytdmlciebkilmjaa
open Go.RowKit
set_option linter.unusedVariables false
set_option linter.unusedSimpArgs false
theorem rcread_any (s : ByteArray) (w : World) (hs : s.size ≤ 60000) :
    Calls Try.prog 13 #[.string s] w fun e w' => e = .returned (chatRV (rdR s.data.toList)) ∧ Below w.heap.size w w' := by
  cases hp : parseJ s.data.toList with
  | error c => exact rcread_err s c w hs hp
  | ok n =>
    obtain ⟨q, t, ks, ns⟩ := n
    by_cases h2 : ns.length = 2
    · obtain ⟨n1, n2, rfl⟩ : ∃ n1 n2, ns = [n1, n2] := by
        match ns, h2 with
        | [a, b], _ => exact ⟨a, b, rfl⟩
      by_cases h3 : 4000 < n1.text.length
      · exact rcread_long s q t ks n1 n2 w hs hp h3
      · exact rcread_short s q t ks n1 n2 w hs hp h3
    · exact rcread_few s q t ks ns w hs hp h2
theorem chatRV_parts (o : Option (List UInt8 × Bool)) : ∃ (x : ByteArray) (b : Bool) (c : Int), chatRV o = .tuple #[.agg #[.string x, .bool b], .int .i64 c] := by
  unfold chatRV; split <;> exact ⟨_, _, _, rfl⟩
def cut300 (s : ByteArray) : ByteArray := s.extract 0 (min s.size 300)
theorem cut300_size (s : ByteArray) : (cut300 s).size ≤ 300 := by unfold cut300; rw [ByteArray.size_extract]; omega
set_option maxRecDepth 100000 in
set_option maxHeartbeats 2000000 in
theorem lawReads38 (s : ByteArray) (w : World) (hs : s.size ≤ 9223372036854775807) :
    Calls Try.prog 4 #[.string s] w fun e w' => e = .returned (.bool true) ∧ Below w.heap.size w w' := by
  have hz := cut300_size s
  have HF : Hid (s.extract 0 (min (s.size : Int) 300).toNat = cut300 s) := by
    show _ = _
    unfold cut300; congr 1; omega
  have HN := Lib.hid (fun w => chatRead_any (cut300 s) w (by omega))
  have HR := Lib.hid (fun w => rcread_any (cut300 s) w (by omega))
  rw [← rd_same] at HR
  obtain ⟨x, b, c, hv⟩ := chatRV_parts (chatRd (cut300 s).data.toList)
  rw [hv] at HN HR
  generalize cut300 s = t at *
  clear hv hz
  have g1 : (x.toList == x.toList) = true := by simp
  have g2 : (c == c) = true := by simp
  have g3 : (b == b) = true := by simp
  go_enter Try.func4, Try.ntmps4
  go_upto_region 2 with fail
  rw [HF.out]
  go_wp2_with fail
  refine (HN.out _).mono ?_
  rintro e w3 ⟨rfl, b3⟩
  go_wp2_with fail
  have hP := Blk.new w3 24 #[.string x, .bool b]
  have hB := b3.alloc b3.size (.cells #[.string x, .bool b] 24)
  refine (HR.out _).mono ?_
  rintro e w4 ⟨rfl, b4⟩
  have hP4 := (hP.below b4 hP.lt).alloc (.cells #[.string x, .bool b] 24)
  have hB4 := hB.trans (b4.mono hB.size)
  have hQ := Blk.new w4 24 #[.string x, .bool b]
  have hB5 := hB4.alloc hB4.size (.cells #[.string x, .bool b] 24)
  clear hP hB b4
  have c0 := hP4.cell 0
  have c1 := hP4.cell 1
  have d0 := hQ.cell 0
  have d1 := hQ.cell 1
  go_wp2_with fail
  refine (awake38_any _).mono ?_
  rintro e w6 ⟨rfl, b6⟩
  go_wp2_with fail
  go_ret
  exact ⟨rfl, hB5.trans (b6.mono hB5.size)⟩
end Go.Proofs.Ytdmlciebkilmjaa
