/- Walks: how many texts, of how many bytes together (FindFits, chapter 03). -/
import Derived.Test.YtpjlkhdolhoeoaaFdRg
import Derived.Test.YtpjlkhdolhoeoaaFdSto
namespace Go.Proofs.Ytpjlkhdolhoeoaa
open Go.Shelf Go.RowKit Go.Lib Go.Maps
set_option linter.unusedVariables false
set_option linter.unusedSimpArgs false
theorem infoU8 : (Try.prog.info? 5).map (fun i => (i.zero, i.size, i.bytes)) = some (some (.int .u8 0), 1, 1) := by kernel_rfl
theorem infoStr : (Try.prog.info? 9).map (fun i => (i.zero, i.size, i.bytes)) = some (some (.string ⟨#[]⟩), 1, 16) := by kernel_rfl
def zerosB (n : Nat) : Bs := List.replicate n 0
def zerosC (n : Nat) : Obj := .cells (madeCells #[.int .u8 0] n) 5
theorem run_mkB (n : Nat) (hn : n ≤ 1000000) (W : World) : Sem.run Try.prog (Instr.makeSlice 24 (.int .i64 (n : Int)) (.int .i64 (n : Int))) W = .ok (.slice (some ⟨W.heap.size, 0, none⟩) n n) (W.alloc (zerosC n)) := by
  obtain ⟨i0, hi0, hz0, hz1, hz2⟩ := info_parts infoU8
  have h := run_make (P := Try.prog) W 24 5 i0 (.int .u8 0) Try.underlying24 hi0 hz0 .i64 .i64 n n (by omega) (by omega) (by rw [hz2]; omega) (by omega)
  rw [hz1] at h
  simpa [zerosC, Value.cells] using h
theorem conv_cells {w : World} {g off : Nat} {X : Bs} (h : ∀ (j : Nat) (c : UInt8), X[j]? = some c → w.cell? ⟨g, off + j, none⟩ = some (.int .u8 (c.toNat : Int))) (c : Nat) : Sem.run Try.prog (convert 24 9 (.slice (some ⟨g, off, none⟩) X.length c)) w = .ok (.string (strOf X)) w := by
  have h1 : (loadCells ⟨g, off, none⟩ X.length).run Try.prog w = .ok ((X.map fun c => (c.toNat : Int)).map (Value.int .u8)).toArray w := by
    have := run_loadCells_list (P := Try.prog) (w := w) ⟨g, off, none⟩ ((X.map fun c => (c.toNat : Int)).map (Value.int .u8)) (fun j u hj => by
      rw [Addr.add_lit]
      rw [List.getElem?_map, List.getElem?_map] at hj
      cases hx : X[j]? with
      | none => rw [hx] at hj; simp at hj
      | some c =>
        rw [hx] at hj
        simp at hj
        subst hj
        exact h j c hx)
    simpa using this
  have h2 := run_bytesToString (P := Try.prog) w ⟨g, off, none⟩ X.length c _ h1
  rw [foldl_push] at h2
  have e : (⟨ByteArray.empty.data ++ X.toArray⟩ : ByteArray) = strOf X := by
    have h0 : ByteArray.empty.data = #[] := rfl
    rw [h0]
    simp [strOf]
  rw [e] at h2
  unfold convert
  simp only [Sem.run_bind, run_underlying Try.underlying24, run_underlying Try.underlying9, Result.andThen]
  simp [Try.underlying5, run_underlying Try.underlying5, h2, Sem.run_bind, Result.andThen]
theorem conv_made (n : Nat) (W : World) : Sem.run Try.prog (convert 24 9 (.slice (some ⟨W.heap.size, 0, none⟩) n n)) (W.alloc (zerosC n)) = .ok (.string (strOf (zerosB n))) (W.alloc (zerosC n)) := by
  have h := conv_cells (w := W.alloc (zerosC n)) (g := W.heap.size) (off := 0) (X := zerosB n) (fun j c hj => by
    have hjl : j < n := by have := get_lt hj; simpa [zerosB] using this
    have hc : c = 0 := by
      unfold zerosB at hj
      rw [List.getElem?_replicate, if_pos hjl] at hj
      exact (Option.some.inj hj).symm
    subst hc
    rw [Nat.zero_add]
    unfold zerosC
    rw [cell_of_row _ _ _ _ _ _ (heap_alloc_new W _)]
    simp [madeCells, hjl, Nat.mod_one]) n
  simpa [zerosB] using h
theorem txt_own {w : World} {base g cap N : Nat} {ls : List Bs} (h : w.ownsRow base 9 1 (.slice (some ⟨g, 0, none⟩) N cap) N (strG ls)) : TxtM w g 0 ls := fun j s hs => by
  have := h.cells (g := g) rfl j (.string (strOf s)) (by simp [strG, hs])
  rwa [Addr.add_lit] at this
theorem own_some {w : World} {base n : Nat} {e : TypeId} {size : Nat} {v : Value} {xs : List Value} (h : w.ownsRow base e size v n xs) (hn : 0 < n) : ∃ g c, v = .slice (some ⟨g, 0, none⟩) n c := by
  rcases h.2 with ⟨_, h0⟩ | ⟨g, cap, cur, hv, _⟩
  · omega
  · exact ⟨g, cap, hv⟩
/-- The texts that are looked at. -/
def fitL (n b c : Nat) : List Bs := if 1 < n then ((List.replicate n []).set 0 (zerosB b)).set (n - 1) (zerosB c) else List.replicate n []
theorem fitL_len (n b c : Nat) : (fitL n b c).length = n := by unfold fitL; split <;> simp
theorem fitL_mem {n b c : Nat} (hb : b ≤ 100000) (hc : c ≤ 100000) : ∀ s ∈ fitL n b c, s.length ≤ 100000 := by
  intro s hs
  unfold fitL at hs
  split at hs
  · rcases List.mem_or_eq_of_mem_set hs with h | h
    · rcases List.mem_or_eq_of_mem_set h with h | h
      · rw [List.mem_replicate] at h; rw [h.2]; simp
      · rw [h]; simpa [zerosB] using hb
    · rw [h]; simpa [zerosB] using hc
  · rw [List.mem_replicate] at hs; rw [hs.2]; simp
theorem strG_set (ls : List Bs) (i : Nat) (s : Bs) : (strG ls).set i (.string (strOf s)) = strG (ls.set i s) := by simp [strG, List.map_set]
theorem strG_snoc (ls : List Bs) (s : Bs) : strG (ls ++ [s]) = strG ls ++ [.string (strOf s)] := by simp [strG]
/-- The row of the texts, of one's own. -/
def OwnT (w0 : World) (v : Value) (n : Nat) (ls : List Bs) (w : World) : Prop := (∃ g c, v = .slice (some ⟨g, 0, none⟩) n c) ∧ w.ownsRow w0.heap.size 9 1 v n (strG ls) ∧ Below w0.heap.size w0 w
theorem OwnT.al {w0 w : World} {v : Value} {n : Nat} {ls : List Bs} (h : OwnT w0 v n ls w) (o : Obj) : OwnT w0 v n ls (w.alloc o) := ⟨h.1, h.2.1.alloc o, h.2.2.alloc h.2.2.size o⟩
theorem OwnT.set_ {w0 w : World} {g n cp : Nat} {ls : List Bs} (h : OwnT w0 (.slice (some ⟨g, 0, none⟩) n cp) n ls w) {i : Nat} (hi : i < ls.length) (s : Bs) :
    OwnT w0 (.slice (some ⟨g, 0, none⟩) n cp) n (ls.set i s) (w.setCell ⟨g, i, none⟩ (.string (strOf s))) := by
  refine ⟨h.1, ?_, h.2.2.setCell (p := ⟨g, i, none⟩) (h.2.1.lt g rfl).1 _⟩
  rw [← strG_set]
  exact own_set h.2.1 (by rw [strG_len]; exact hi) _
theorem OwnT.cf {w0 w : World} {g n cp : Nat} {ls : List Bs} (h : OwnT w0 (.slice (some ⟨g, 0, none⟩) n cp) n ls w) {i : Nat} {s : Bs} (hi : ls[i]? = some s) : w.cell? ⟨g, i, none⟩ = some (.string (strOf s)) ∧ w.frozen? ⟨g, i, none⟩ = false := by
  have h1 := own_cf h.2.1
  refine ⟨?_, h1.2 _⟩
  have := txt_own h.2.1 i s hi
  rwa [Nat.zero_add] at this
set_option maxRecDepth 100000 in
set_option maxHeartbeats 4000000 in
theorem ffitsLaw (a b c : Nat) (ha : a < 65536) (hb : b < 65536) (hc : c < 256) (w : World) :
    Calls Try.prog 3 #[.int .u16 (a : Int), .int .u16 (b : Int), .int .u8 (c : Int)] w fun e w' => e = .returned (.bool true) ∧ Below w.heap.size w w' := by
  obtain ⟨i0, hi, hz0, hz1, hz2⟩ := info_parts infoStr
  obtain ⟨n, hn⟩ : ∃ n, a % 300 = n := ⟨_, rfl⟩
  have hnz : (a : Int) % 300 = (n : Int) := by omega
  have hbz : (b : Int) % 70000 = (b : Int) := by omega
  have hn3 : n < 300 := by omega
  have e1 := fun W => run_mkB b (by omega) W
  have e2 := fun W => run_mkB c (by omega) W
  have e3 := fun W => conv_made b W
  have e4 := fun W => conv_made c W
  have E := Lib.hid (And.intro e1 (And.intro e2 (And.intro e3 e4)))
  have hst : OwnT w (.slice (some ⟨w.heap.size, 0, none⟩) 0 0) 0 (List.replicate 0 []) (w.alloc (.cells #[] 9)) := ⟨⟨_, _, rfl⟩, World.ownsRow_lit w #[] 0 (Nat.le_refl _) (by decide) rfl, (Below.refl _ _).alloc (Nat.le_refl _) _⟩
  have HST := Lib.hid hst
  clear hn e1 e2 e3 e4 hst
  go_enter Try.func3, Try.ntmps3
  go_upto_region 1 with fail
  go_cut [7, 8] (fun u v wx => u = .int .i64 (n : Int) ∧ v = .int .i64 (b : Int) ∧ w = wx)
  case first =>
    go_wp2_with fail
    go_meet
    case rel => exact ⟨by first | rfl | rw [hnz], by first | rfl | rw [hbz], rfl⟩
  case rest =>
    obtain ⟨rfl, rfl, rfl⟩ := hcut
    clear hnz hbz
    go_wp2_with fail
    go_loopw [9, 10] (fun v z wr => ∃ k : Nat, z = .int .i64 k ∧ k ≤ n ∧ OwnT w v k (List.replicate k []) wr) (fun _ z _ => n - (intOf z).toNat)
    case atStart => exact ⟨0, rfl, Nat.zero_le _, HST.out⟩
    case round =>
      obtain ⟨k, rfl, hk, hR⟩ := hrel
      by_cases hlt : k < n
      · have kz : (k : Int) < (n : Int) := by omega
        have e5 : IntKind.i64.wrap ((k : Int) + 1) = (k : Int) + 1 := IntWalk.i64_in _ (by omega)
        have HR := Lib.hid hR
        obtain ⟨⟨g, cp, rfl⟩, hown, hbel⟩ := hR
        have e3' : k + 1 ≤ maxLen := by unfold maxLen; omega
        have e4 : (k + 1) * 16 ≤ 140737488355328 := by omega
        have e5' : w.heap.size ≤ (wr.alloc (.cells #[.string ⟨#[]⟩] 9)).heap.size := by have := hbel.size; simp; omega
        clear hbel
        go_wp2_with (at_builtin; refine wpList_append_own _ rfl _ _ 23 rfl w.heap.size 9 i0 (.string ⟨#[]⟩) 1 16 Try.underlying23 hi hz0 hz1 hz2 rfl (by decide) _ _ _ rfl (hown.alloc _) ⟨wr.heap.size, 0, none⟩ 1 1 [.string ⟨#[]⟩] rfl rfl (cells_newF _ _ _) (by intro u hu; simp at hu; subst hu; rfl) e3' e4 e5' ?_; intro v' w4 hown4 hg4 _; have H4 := Lib.hid (And.intro hown4 hg4); obtain ⟨g4, c4, rfl⟩ := own_some hown4 (by omega); go_frame)
        obtain ⟨hown4, hg4⟩ := H4.out
        have hg4 : (wr.alloc (.cells #[.string ⟨#[]⟩] 9)).grownBy w4 _ := hg4
        have hb4 : Below w.heap.size w w4 := (HR.out.2.2.alloc HR.out.2.2.size _).trans (below_grown hg4 e5' (fun j hj => (hown.lt j hj).1))
        have HB4 := Lib.hid (And.intro hown4 hb4)
        clear hown4 hg4 hb4 hown
        go_wp2_with fail
        go_roundw
        case rel =>
          refine ⟨k + 1, by go_num, hlt, ⟨_, _, rfl⟩, ?_, HB4.out.2⟩
          have h4 := HB4.out.1
          rw [List.replicate_succ', strG_snoc]
          exact h4
        case measure => simp [intOf]; omega
      · have hke : k = n := by omega
        subst hke
        have HR := Lib.hid hR
        obtain ⟨⟨g, cp, rfl⟩, hown, hbel⟩ := hR
        clear hown hbel hlt hk
        go_upto_if 29 with fail
        go_cut [] (fun wx => OwnT w (.slice (some ⟨g, 0, none⟩) k cp) k (fitL k b c) wx)
        case first =>
          by_cases h1 : 1 < k
          · have h1z : (1 : Int) < (k : Int) := by omega
            have hA := HR.out.al (zerosC b)
            have hB := hA.set_ (i := 0) (by simp; omega) (zerosB b)
            have hC := hB.al (zerosC c)
            obtain ⟨x0, hx0⟩ : ∃ x, (List.replicate k ([] : Bs))[0]? = some x := ⟨_, List.getElem?_eq_getElem (by simp; omega)⟩
            obtain ⟨x1, hx1⟩ : ∃ x, ((List.replicate k ([] : Bs)).set 0 (zerosB b))[k - 1]? = some x := ⟨_, List.getElem?_eq_getElem (by simp; omega)⟩
            obtain ⟨c0, f0⟩ := hA.cf hx0
            have HD := Lib.hid (show OwnT w (.slice (some ⟨g, 0, none⟩) k cp) k (fitL k b c) _ from by unfold fitL; rw [if_pos h1]; exact hC.set_ (i := k - 1) (by simp; omega) (zerosB c))
            have HC := Lib.hid (hC.cf hx1)
            have e1 := E.out.1
            have e3 := E.out.2.2.1
            clear hA hB hC hx0 hx1
            go_upto_region 9 with fail
            have HC2 := HC.out
            generalize (wr.alloc (zerosC b)).setCell ⟨g, 0, none⟩ (.string (strOf (zerosB b))) = w2 at HD HC2 ⊢
            obtain ⟨c1, f1⟩ := HC2
            have e2 := E.out.2.1
            have e4 := E.out.2.2.2
            have k1 : ((k : Int) - 1).toNat = k - 1 := by omega
            have k2 : (0 : Int) ≤ (k : Int) - 1 := by omega
            have k3 : (k : Int) - 1 < (k : Int) := by omega
            clear HC e1 e3
            go_wp2_with fail
            go_meet
            case rel => exact HD.out
          · have h1z : ¬ (1 : Int) < (k : Int) := by omega
            go_wp2_with fail
            go_meet
            case rel => 
              have := HR.out
              unfold fitL; rw [if_neg h1]; exact this
        case rest =>
          have HW := Lib.hid hcut
          obtain ⟨ls, hls⟩ : ∃ ls, fitL k b c = ls := ⟨_, rfl⟩
          have hll := fitL_len k b c
          have hlm := fitL_mem (n := k) (b := b) (c := c) (by omega) (by omega)
          rw [hls] at HW hll hlm
          have htx := txt_own HW.out.2.1
          have HT := Lib.hid (fun (W : World) (hb : Below wc.heap.size wc W) => htx.keep hb)
          have HRF := Lib.hid (fun (W : World) (hb : Below wc.heap.size wc W) => ffitsR (cap := cp) (htx.keep hb) (by omega) hlm)
          have HAW := Lib.hid (fun W => fawake W)
          clear hcut
          by_cases h0 : fitN ls = 0
          · have htot : tot ls ≤ 65536 := by
              unfold fitN at h0
              by_cases h1 : 256 < ls.length
              · rw [if_pos h1] at h0; cases h0
              · rw [if_neg h1] at h0
                by_cases h2 : 65536 < tot ls
                · rw [if_pos h2] at h0; cases h0
                · omega
            have HNEW := Lib.hid (fnew (cap := cp) htx h0 hlm (fun N hN => stableAny N (by omega)))
            rw [h0] at HRF
            rw [hll] at HNEW HRF
            clear htx htot h0
            go_upto_region 11 with (go_at_call 8; refine HNEW.out.mono ?_; rintro e w2 ⟨M, rfl, hm⟩; have HM := Lib.hid hm.bel; clear hm)
            have hb2 := HM.out
            go_wp2_with (first
              | (go_at_call 9; refine (HRF.out _ HM.out).mono ?_; rintro e w3 ⟨rfl, rfl⟩)
              | (go_at_call 10; refine (HAW.out _).mono ?_; rintro e w4 ⟨rfl, hb4⟩; have HE := Lib.hid hb4; clear hb4))
            go_ret
            have h1 := HW.out.2.2.trans (HM.out.mono HW.out.2.2.size)
            exact ⟨rfl, h1.trans (HE.out.mono h1.size)⟩
          · obtain ⟨N, hN⟩ : ∃ N, fitN ls = N := ⟨_, rfl⟩
            have HNEW := Lib.hid (fnewNo (cap := cp) htx (by omega) hlm hN (by omega))
            rw [hN] at HRF h0
            rw [hll] at HNEW HRF
            have hz : ((N : Int) == 0) = false := by simp; omega
            clear htx h0 hN
            go_upto_region 11 with (go_at_call 8; refine HNEW.out.mono ?_; rintro e w2 ⟨rfl, rfl⟩)
            go_wp2_with (first
              | (go_at_call 9; refine (HRF.out _ (Below.refl _ _)).mono ?_; rintro e w3 ⟨rfl, rfl⟩)
              | (go_at_call 10; refine (HAW.out _).mono ?_; rintro e w4 ⟨rfl, hb4⟩; have HE := Lib.hid hb4; clear hb4))
            go_ret
            exact ⟨rfl, HW.out.2.2.trans (HE.out.mono HW.out.2.2.size)⟩
end Go.Proofs.Ytpjlkhdolhoeoaa
