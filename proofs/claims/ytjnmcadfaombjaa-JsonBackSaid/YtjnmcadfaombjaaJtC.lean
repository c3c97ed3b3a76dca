/- Walks: the program's json reader: a number (chapter 10). -/
import Derived.Test.YtjnmcadfaombjaaJtH
namespace Go.Proofs.Ytjnmcadfaombjaa
open Go.RowKit
set_option linter.unusedVariables false
set_option linter.unusedSimpArgs false
set_option maxRecDepth 100000 in
set_option maxHeartbeats 8000000 in
theorem jnumber (g k : Nat) (s : ByteArray) (w : World) (hR : Rdr w g s k) (hk : k < s.size) (hs : s.size ≤ 1000000) :
    Calls Try.prog 41 #[.pointer (some ⟨g, 0, none⟩)] w fun e w' => TakR (numTok s.data.toList k) g s e w' ∧ Only g w w' := by
  have hl := sz_len s
  have HL := Lib.hid hl
  have hs0 := numStart_bd s.data.toList k (by omega)
  have HS1 := Lib.hid (fun k c hc w hR hk => jsign1 g k s c hc w hR hk hs)
  have HS2 := Lib.hid (fun k c d hc hd w hR hk => jsign2 g k s c d hc hd w hR hk hs)
  have HD := Lib.hid (fun k w hR hk => jdigits g k s w hR hk hs)
  have HN : Hid (numE s.data.toList k = if digE s.data.toList (numStart s.data.toList k) = numStart s.data.toList k then none else some (numExp s.data.toList (numFrac s.data.toList (numInt s.data.toList (numStart s.data.toList k))))) := rfl
  have hgl := hR.lt
  have HT0 := Lib.hid (Blk.new w 31 #[.int .u8 0, .string ⟨#[]⟩, .int .i64 0, .int .i64 0])
  have HR0 := Lib.hid (hR.alloc (.cells #[.int .u8 0, .string ⟨#[]⟩, .int .i64 0, .int .i64 0] 31))
  have HO0 := Lib.hid ((Only.refl g w).alloc (.cells #[.int .u8 0, .string ⟨#[]⟩, .int .i64 0, .int .i64 0] 31))
  have c1 := HR0.out.c1
  clear hR
  have hk6 : k ≤ 1000000 := by omega
  go_enter Try.func41, Try.ntmps41
  go_upto_region 2 with fail
  clear c1
  generalize w.alloc (.cells #[.int .u8 0, .string ⟨#[]⟩, .int .i64 0, .int .i64 0] 31) = W0 at *
  go_wp2_with fail
  refine (HS1.out k 45 (by decide) _ HR0.out hk6).mono ?_
  rintro e w1 ⟨rfl, hR1, hO1⟩
  have hR1' : Rdr w1 g s (numStart s.data.toList k) := hR1
  have hT1 := HT0.out.only hO1 (by omega)
  have hO1' := HO0.out.trans hO1
  clear hR1 hO1 HT0 HR0 HO0
  have hk0l : numStart s.data.toList k ≤ s.size := by omega
  have hk0g : k ≤ numStart s.data.toList k := hs0.1
  generalize numStart s.data.toList k = k0 at *
  clear hs0 hl
  generalize (decide (bt s.data.toList k = (45 : UInt8).toNat)) = b0
  go_wp2_with fail
  have hz1 : bt s.data.toList k0 = 48 → k0 < s.size := fun h => by
    rcases Nat.lt_or_ge k0 s.size with h1 | h1
    · exact h1
    · rw [bt_out (by have := HL.out; omega)] at h; cases h
  refine (HS1.out k0 48 (by decide) _ hR1' (by omega)).mono ?_
  rintro e w2 ⟨rfl, hR2, hO2⟩
  have hT2 := hT1.only hO2 (by omega)
  have hO2' := hO1'.trans hO2
  clear hR1' hO2 hT1 hO1'
  have hd48 : bt s.data.toList k0 = 48 → digE s.data.toList k0 ≠ k0 := fun h e => by
    have h2 := digE_yes (l := s.data.toList) (k := k0) (by have := HL.out; have := hz1 h; omega) (by unfold isDg; omega)
    have h3 := digE_ge s.data.toList (k0 + 1)
    omega
  by_cases hb1 : bt s.data.toList k0 = (48 : UInt8).toNat
  · rw [if_pos hb1] at hR2
    have hI : numInt s.data.toList k0 = k0 + 1 := if_pos hb1
    have hnz := hd48 hb1
    have hkl := hz1 hb1
    rw [if_neg hnz, hI] at HN
    rw [decide_eq_true hb1]
    clear hb1 hz1 hd48 hI hnz
    obtain ⟨e1, he1⟩ : ∃ e1, k0 + 1 = e1 := ⟨_, rfl⟩
    have hel : e1 ≤ s.size := by omega
    have hke : k ≤ e1 := by omega
    rw [he1] at HN hR2
    clear he1 hk0l hk0g hkl
    have HFb := numFrac_bd s.data.toList e1 (by have := HL.out; omega)
    obtain ⟨e2, he2⟩ : ∃ e2, numFrac s.data.toList e1 = e2 := ⟨_, rfl⟩
    have HF : Hid ((¬ bt s.data.toList e1 = (46 : UInt8).toNat ∧ e1 = e2) ∨ (bt s.data.toList e1 = (46 : UInt8).toNat ∧ e1 + 1 < digE s.data.toList (e1 + 1) ∧ digE s.data.toList (e1 + 1) = e2) ∨ (bt s.data.toList e1 = (46 : UInt8).toNat ∧ ¬ e1 + 1 < digE s.data.toList (e1 + 1) ∧ e1 = e2)) := by
      show _ ∨ _ ∨ _
      rw [← he2]
      unfold numFrac
      by_cases h1 : bt s.data.toList e1 = 46
      · by_cases h2 : e1 + 1 < digE s.data.toList (e1 + 1)
        · exact .inr (.inl ⟨h1, h2, by rw [if_pos ⟨h1, h2⟩]⟩)
        · exact .inr (.inr ⟨h1, h2, by rw [if_neg (fun h => h2 h.2)]⟩)
      · exact .inl ⟨h1, by rw [if_neg (fun h => h1 h.1)]⟩
    rw [he2] at HN HFb
    have he2l : e2 ≤ s.size := by have := HL.out; omega
    have hke2 : k ≤ e2 := by omega
    clear he2
    have hHy : bt s.data.toList e1 = (46 : UInt8).toNat → e1 < s.size := fun h => by
      have h3 := bt_pos_lt (l := s.data.toList) (k := e1) (by rw [h]; decide)
      have := HL.out; omega
    have c1 := hR2.c1
    go_wp2_with fail
    rcases HF.out with ⟨hb, he⟩ | ⟨hb, hd, he⟩ | ⟨hb, hd, he⟩
    · refine (HS1.out e1 46 (by decide) _ hR2 (by omega)).mono ?_
      rintro e w4 ⟨rfl, hR4, hO4⟩
      have hT4 := hT2.only hO4 (by omega)
      have hQ4 := hO2'.trans hO4
      clear hR2 hT2 hO2' hO4
      rw [if_neg hb] at hR4
      rw [decide_eq_false hb]
      subst he
      clear hb HF c1 hHy
      have c0 := hR4.c0
      have c1 := hR4.c1
      have f1 := hR4.f1
      obtain ⟨f, hf⟩ : ∃ f, expStart s.data.toList (e1 + 1) = f := ⟨_, rfl⟩
      have HEb := numExp_bd s.data.toList e1 (by have := HL.out; omega)
      obtain ⟨e3, he3⟩ : ∃ e3, numExp s.data.toList e1 = e3 := ⟨_, rfl⟩
      have HX : Hid ((¬ (bt s.data.toList e1 = (101 : UInt8).toNat ∨ bt s.data.toList e1 = (69 : UInt8).toNat) ∧ e1 = e3) ∨ ((bt s.data.toList e1 = (101 : UInt8).toNat ∨ bt s.data.toList e1 = (69 : UInt8).toNat) ∧ f < digE s.data.toList f ∧ digE s.data.toList f = e3) ∨ ((bt s.data.toList e1 = (101 : UInt8).toNat ∨ bt s.data.toList e1 = (69 : UInt8).toNat) ∧ ¬ f < digE s.data.toList f ∧ e1 = e3)) := by
        show _ ∨ _ ∨ _
        rw [← he3]
        unfold numExp
        rw [hf]
        by_cases h1 : bt s.data.toList e1 = 101 ∨ bt s.data.toList e1 = 69
        · by_cases h2 : f < digE s.data.toList f
          · exact .inr (.inl ⟨h1, h2, by rw [if_pos h1, if_pos h2]⟩)
          · exact .inr (.inr ⟨h1, h2, by rw [if_pos h1, if_neg h2]⟩)
        · exact .inl ⟨h1, by rw [if_neg h1]⟩
      have hHx : (bt s.data.toList e1 = (101 : UInt8).toNat ∨ bt s.data.toList e1 = (69 : UInt8).toNat) → e1 < s.size := fun h => by
        have h3 := bt_pos_lt (l := s.data.toList) (k := e1) (by rcases h with h | h <;> rw [h] <;> decide)
        have := HL.out; omega
      have hfb := fun h : e1 + 1 ≤ s.data.toList.length => expStart_bd s.data.toList (e1 + 1) h
      rw [hf] at hfb
      rw [he3] at HN HEb
      have he3l : e3 ≤ s.size := by have := HL.out; omega
      have hke3 : k ≤ e3 := by omega
      clear he3
      go_upto_region 9 with fail
      have hRs := hR4.set e1
      have hTs := Blk.far hT4 (p := ⟨g, 1, none⟩) (by show w.heap.size ≠ g; omega) (.int .i64 e1)
      have hOs := hQ4.set 1 (.int .i64 e1)
      clear hR4 hT4 hQ4 c0 c1 f1
      generalize w4.setCell ⟨g, 1, none⟩ (.int .i64 e1) = Ws at *
      go_wp2_with fail
      rcases HX.out with ⟨hb, he⟩ | ⟨hb, hd, he⟩ | ⟨hb, hd, he⟩
      · refine (HS2.out e1 101 69 (by decide) (by decide) _ hRs (by omega)).mono ?_
        rintro e w6 ⟨rfl, hR6, hO6⟩
        have hT6 := hTs.only hO6 (by omega)
        have hQ6 := hOs.trans hO6
        clear hRs hTs hOs hO6
        rw [if_neg hb] at hR6
        rw [decide_eq_false hb]
        subst he
        clear hb HX hHx hfb hf
        have c0 := hR6.c0
        have c1 := hR6.c1
        have f1 := hR6.f1
        clear HS1 HS2 HD
        go_upto_region 14 with fail
        have hR9 := hR6.set e1
        have hT9 := Blk.far hT6 (p := ⟨g, 1, none⟩) (by show w.heap.size ≠ g; omega) (.int .i64 e1)
        have hO9 := hQ6.set 1 (.int .i64 e1)
        clear hR6 hT6 hQ6 c0 c1 f1
        generalize w6.setCell ⟨g, 1, none⟩ (.int .i64 e1) = W9 at *
        have c0 := hR9.c0
        have r0 := hT9.cell 0
        have f0 := hT9.frozen 0
        have r1 := hT9.cell 1
        have f1 := hT9.frozen 1
        have r2 := hT9.cell 2
        have f2 := hT9.frozen 2
        have r3 := hT9.cell 3
        have f3 := hT9.frozen 3
        go_wp2_with fail
        have hF := (((hT9.set_ 0 (.int .u8 48)).set_ 1 (.string (s.extract k e1))).set_ 2 (.int .i64 k)).set_ 3 (.int .i64 e1)
        have s0 : (World.setCell _ _ _).cell? _ = some (.int .u8 48) := hF.cell 0
        have s1 : (World.setCell _ _ _).cell? _ = some (.string (s.extract k e1)) := hF.cell 1
        have s2 : (World.setCell _ _ _).cell? _ = some (.int .i64 k) := hF.cell 2
        have s3 : (World.setCell _ _ _).cell? _ = some (.int .i64 e1) := hF.cell 3
        exact bodyPost_ret (v := .tuple #[.agg #[.int .u8 48, .string (s.extract k e1), .int .i64 k, .int .i64 e1], .bool true]) (by simp [results, Try.f41, go_sem, s0, s1, s2, s3]) rfl ⟨by unfold numTok; rw [HN.out]; exact ⟨by rw [cut_str]; rfl, (((hR9.far (p := ⟨w.heap.size, 0, none⟩) (Nat.ne_of_lt hgl) _).far (p := ⟨w.heap.size, 1, none⟩) (Nat.ne_of_lt hgl) _).far (p := ⟨w.heap.size, 2, none⟩) (Nat.ne_of_lt hgl) _).far (p := ⟨w.heap.size, 3, none⟩) (Nat.ne_of_lt hgl) _⟩, (((hO9.far (p := ⟨w.heap.size, 0, none⟩) (Nat.le_refl _) _).far (p := ⟨w.heap.size, 1, none⟩) (Nat.le_refl _) _).far (p := ⟨w.heap.size, 2, none⟩) (Nat.le_refl _) _).far (p := ⟨w.heap.size, 3, none⟩) (Nat.le_refl _) _⟩
      · refine (HS2.out e1 101 69 (by decide) (by decide) _ hRs (by omega)).mono ?_
        rintro e w6 ⟨rfl, hR6, hO6⟩
        have hT6 := hTs.only hO6 (by omega)
        have hQ6 := hOs.trans hO6
        clear hRs hTs hOs hO6
        rw [if_pos hb] at hR6
        rw [decide_eq_true hb]
        have hlt := hHx hb
        have hfb2 := hfb (by have := HL.out; omega)
        clear hb HX hHx hfb
        go_wp2_with fail
        refine (HS2.out (e1 + 1) 43 45 (by decide) (by decide) _ hR6 (by omega)).mono ?_
        rintro e w7 ⟨rfl, hR7, hO7⟩
        have hT7 := hT6.only hO7 (by omega)
        have hQ7 := hQ6.trans hO7
        clear hR6 hT6 hQ6 hO7
        have hR7' : Rdr w7 g s (expStart s.data.toList (e1 + 1)) := hR7
        rw [hf] at hR7'
        clear hR7 hf
        generalize (decide (bt s.data.toList (e1 + 1) = (43 : UInt8).toNat ∨ bt s.data.toList (e1 + 1) = (45 : UInt8).toNat)) = b7
        have hfl : f ≤ s.size := by have := HL.out; omega
        go_wp2_with fail
        refine (HD.out f _ hR7' (by omega)).mono ?_
        rintro e w8 ⟨rfl, hR8, hO8⟩
        have hT8 := hT7.only hO8 (by omega)
        have hQ8 := hQ7.trans hO8
        clear hR7' hT7 hQ7 hO8
        have hq : (0 : Int) < (digE s.data.toList f : Int) - (f : Int) := by omega
        rw [he] at hR8 hq ⊢
        clear hd he hfb2
        have c0 := hR8.c0
        have c1 := hR8.c1
        have f1 := hR8.f1
        clear HS1 HS2 HD
        go_upto_region 14 with fail
        have hR9 := hR8.set e3
        have hT9 := Blk.far hT8 (p := ⟨g, 1, none⟩) (by show w.heap.size ≠ g; omega) (.int .i64 e3)
        have hO9 := hQ8.set 1 (.int .i64 e3)
        clear hR8 hT8 hQ8 c0 c1 f1
        generalize w8.setCell ⟨g, 1, none⟩ (.int .i64 e3) = W9 at *
        have c0 := hR9.c0
        have r0 := hT9.cell 0
        have f0 := hT9.frozen 0
        have r1 := hT9.cell 1
        have f1 := hT9.frozen 1
        have r2 := hT9.cell 2
        have f2 := hT9.frozen 2
        have r3 := hT9.cell 3
        have f3 := hT9.frozen 3
        go_wp2_with fail
        have hF := (((hT9.set_ 0 (.int .u8 48)).set_ 1 (.string (s.extract k e3))).set_ 2 (.int .i64 k)).set_ 3 (.int .i64 e3)
        have s0 : (World.setCell _ _ _).cell? _ = some (.int .u8 48) := hF.cell 0
        have s1 : (World.setCell _ _ _).cell? _ = some (.string (s.extract k e3)) := hF.cell 1
        have s2 : (World.setCell _ _ _).cell? _ = some (.int .i64 k) := hF.cell 2
        have s3 : (World.setCell _ _ _).cell? _ = some (.int .i64 e3) := hF.cell 3
        exact bodyPost_ret (v := .tuple #[.agg #[.int .u8 48, .string (s.extract k e3), .int .i64 k, .int .i64 e3], .bool true]) (by simp [results, Try.f41, go_sem, s0, s1, s2, s3]) rfl ⟨by unfold numTok; rw [HN.out]; exact ⟨by rw [cut_str]; rfl, (((hR9.far (p := ⟨w.heap.size, 0, none⟩) (Nat.ne_of_lt hgl) _).far (p := ⟨w.heap.size, 1, none⟩) (Nat.ne_of_lt hgl) _).far (p := ⟨w.heap.size, 2, none⟩) (Nat.ne_of_lt hgl) _).far (p := ⟨w.heap.size, 3, none⟩) (Nat.ne_of_lt hgl) _⟩, (((hO9.far (p := ⟨w.heap.size, 0, none⟩) (Nat.le_refl _) _).far (p := ⟨w.heap.size, 1, none⟩) (Nat.le_refl _) _).far (p := ⟨w.heap.size, 2, none⟩) (Nat.le_refl _) _).far (p := ⟨w.heap.size, 3, none⟩) (Nat.le_refl _) _⟩
      · refine (HS2.out e1 101 69 (by decide) (by decide) _ hRs (by omega)).mono ?_
        rintro e w6 ⟨rfl, hR6, hO6⟩
        have hT6 := hTs.only hO6 (by omega)
        have hQ6 := hOs.trans hO6
        clear hRs hTs hOs hO6
        rw [if_pos hb] at hR6
        rw [decide_eq_true hb]
        have hlt := hHx hb
        have hfb2 := hfb (by have := HL.out; omega)
        clear hb HX hHx hfb
        go_wp2_with fail
        refine (HS2.out (e1 + 1) 43 45 (by decide) (by decide) _ hR6 (by omega)).mono ?_
        rintro e w7 ⟨rfl, hR7, hO7⟩
        have hT7 := hT6.only hO7 (by omega)
        have hQ7 := hQ6.trans hO7
        clear hR6 hT6 hQ6 hO7
        have hR7' : Rdr w7 g s (expStart s.data.toList (e1 + 1)) := hR7
        rw [hf] at hR7'
        clear hR7 hf
        generalize (decide (bt s.data.toList (e1 + 1) = (43 : UInt8).toNat ∨ bt s.data.toList (e1 + 1) = (45 : UInt8).toNat)) = b7
        have hfl : f ≤ s.size := by have := HL.out; omega
        go_wp2_with fail
        refine (HD.out f _ hR7' (by omega)).mono ?_
        rintro e w8 ⟨rfl, hR8, hO8⟩
        have hT8 := hT7.only hO8 (by omega)
        have hQ8 := hQ7.trans hO8
        clear hR7' hT7 hQ7 hO8
        have hq : ¬ ((0 : Int) < (digE s.data.toList f : Int) - (f : Int)) := by omega
        subst he
        have hfb3 := digE_le s.data.toList f (by have := HL.out; omega)
        generalize digE s.data.toList f = d at *
        clear hd hfb2 hfb3
        have c0 := hR8.c0
        have c1 := hR8.c1
        have f1 := hR8.f1
        clear HS1 HS2 HD
        go_upto_region 14 with fail
        have hR9 := hR8.set e1
        have hT9 := Blk.far hT8 (p := ⟨g, 1, none⟩) (by show w.heap.size ≠ g; omega) (.int .i64 e1)
        have hO9 := hQ8.set 1 (.int .i64 e1)
        clear hR8 hT8 hQ8 c0 c1 f1
        generalize w8.setCell ⟨g, 1, none⟩ (.int .i64 e1) = W9 at *
        have c0 := hR9.c0
        have r0 := hT9.cell 0
        have f0 := hT9.frozen 0
        have r1 := hT9.cell 1
        have f1 := hT9.frozen 1
        have r2 := hT9.cell 2
        have f2 := hT9.frozen 2
        have r3 := hT9.cell 3
        have f3 := hT9.frozen 3
        go_wp2_with fail
        have hF := (((hT9.set_ 0 (.int .u8 48)).set_ 1 (.string (s.extract k e1))).set_ 2 (.int .i64 k)).set_ 3 (.int .i64 e1)
        have s0 : (World.setCell _ _ _).cell? _ = some (.int .u8 48) := hF.cell 0
        have s1 : (World.setCell _ _ _).cell? _ = some (.string (s.extract k e1)) := hF.cell 1
        have s2 : (World.setCell _ _ _).cell? _ = some (.int .i64 k) := hF.cell 2
        have s3 : (World.setCell _ _ _).cell? _ = some (.int .i64 e1) := hF.cell 3
        exact bodyPost_ret (v := .tuple #[.agg #[.int .u8 48, .string (s.extract k e1), .int .i64 k, .int .i64 e1], .bool true]) (by simp [results, Try.f41, go_sem, s0, s1, s2, s3]) rfl ⟨by unfold numTok; rw [HN.out]; exact ⟨by rw [cut_str]; rfl, (((hR9.far (p := ⟨w.heap.size, 0, none⟩) (Nat.ne_of_lt hgl) _).far (p := ⟨w.heap.size, 1, none⟩) (Nat.ne_of_lt hgl) _).far (p := ⟨w.heap.size, 2, none⟩) (Nat.ne_of_lt hgl) _).far (p := ⟨w.heap.size, 3, none⟩) (Nat.ne_of_lt hgl) _⟩, (((hO9.far (p := ⟨w.heap.size, 0, none⟩) (Nat.le_refl _) _).far (p := ⟨w.heap.size, 1, none⟩) (Nat.le_refl _) _).far (p := ⟨w.heap.size, 2, none⟩) (Nat.le_refl _) _).far (p := ⟨w.heap.size, 3, none⟩) (Nat.le_refl _) _⟩
    · refine (HS1.out e1 46 (by decide) _ hR2 (by omega)).mono ?_
      rintro e w4 ⟨rfl, hR4, hO4⟩
      have hT4 := hT2.only hO4 (by omega)
      have hQ4 := hO2'.trans hO4
      clear hR2 hT2 hO2' hO4
      rw [if_pos hb] at hR4
      rw [decide_eq_true hb]
      have hlt1 := hHy hb
      clear hb HF c1 hHy
      go_wp2_with fail
      refine (HD.out (e1 + 1) _ hR4 (by omega)).mono ?_
      rintro e w5 ⟨rfl, hR5, hO5⟩
      have hT5 := hT4.only hO5 (by omega)
      have hQ5 := hQ4.trans hO5
      clear hR4 hT4 hQ4 hO5
      have hq : (0 : Int) < (digE s.data.toList (e1 + 1) : Int) - ((e1 + 1 : Nat) : Int) := by omega
      rw [he] at hR5 hq ⊢
      clear hd he
      have c0 := hR5.c0
      have c1 := hR5.c1
      have f1 := hR5.f1
      obtain ⟨f, hf⟩ : ∃ f, expStart s.data.toList (e2 + 1) = f := ⟨_, rfl⟩
      have HEb := numExp_bd s.data.toList e2 (by have := HL.out; omega)
      obtain ⟨e3, he3⟩ : ∃ e3, numExp s.data.toList e2 = e3 := ⟨_, rfl⟩
      have HX : Hid ((¬ (bt s.data.toList e2 = (101 : UInt8).toNat ∨ bt s.data.toList e2 = (69 : UInt8).toNat) ∧ e2 = e3) ∨ ((bt s.data.toList e2 = (101 : UInt8).toNat ∨ bt s.data.toList e2 = (69 : UInt8).toNat) ∧ f < digE s.data.toList f ∧ digE s.data.toList f = e3) ∨ ((bt s.data.toList e2 = (101 : UInt8).toNat ∨ bt s.data.toList e2 = (69 : UInt8).toNat) ∧ ¬ f < digE s.data.toList f ∧ e2 = e3)) := by
        show _ ∨ _ ∨ _
        rw [← he3]
        unfold numExp
        rw [hf]
        by_cases h1 : bt s.data.toList e2 = 101 ∨ bt s.data.toList e2 = 69
        · by_cases h2 : f < digE s.data.toList f
          · exact .inr (.inl ⟨h1, h2, by rw [if_pos h1, if_pos h2]⟩)
          · exact .inr (.inr ⟨h1, h2, by rw [if_pos h1, if_neg h2]⟩)
        · exact .inl ⟨h1, by rw [if_neg h1]⟩
      have hHx : (bt s.data.toList e2 = (101 : UInt8).toNat ∨ bt s.data.toList e2 = (69 : UInt8).toNat) → e2 < s.size := fun h => by
        have h3 := bt_pos_lt (l := s.data.toList) (k := e2) (by rcases h with h | h <;> rw [h] <;> decide)
        have := HL.out; omega
      have hfb := fun h : e2 + 1 ≤ s.data.toList.length => expStart_bd s.data.toList (e2 + 1) h
      rw [hf] at hfb
      rw [he3] at HN HEb
      have he3l : e3 ≤ s.size := by have := HL.out; omega
      have hke3 : k ≤ e3 := by omega
      clear he3
      go_upto_region 9 with fail
      have hRs := hR5.set e2
      have hTs := Blk.far hT5 (p := ⟨g, 1, none⟩) (by show w.heap.size ≠ g; omega) (.int .i64 e2)
      have hOs := hQ5.set 1 (.int .i64 e2)
      clear hR5 hT5 hQ5 c0 c1 f1
      generalize w5.setCell ⟨g, 1, none⟩ (.int .i64 e2) = Ws at *
      go_wp2_with fail
      rcases HX.out with ⟨hb, he⟩ | ⟨hb, hd, he⟩ | ⟨hb, hd, he⟩
      · refine (HS2.out e2 101 69 (by decide) (by decide) _ hRs (by omega)).mono ?_
        rintro e w6 ⟨rfl, hR6, hO6⟩
        have hT6 := hTs.only hO6 (by omega)
        have hQ6 := hOs.trans hO6
        clear hRs hTs hOs hO6
        rw [if_neg hb] at hR6
        rw [decide_eq_false hb]
        subst he
        clear hb HX hHx hfb hf
        have c0 := hR6.c0
        have c1 := hR6.c1
        have f1 := hR6.f1
        clear HS1 HS2 HD
        go_upto_region 14 with fail
        have hR9 := hR6.set e2
        have hT9 := Blk.far hT6 (p := ⟨g, 1, none⟩) (by show w.heap.size ≠ g; omega) (.int .i64 e2)
        have hO9 := hQ6.set 1 (.int .i64 e2)
        clear hR6 hT6 hQ6 c0 c1 f1
        generalize w6.setCell ⟨g, 1, none⟩ (.int .i64 e2) = W9 at *
        have c0 := hR9.c0
        have r0 := hT9.cell 0
        have f0 := hT9.frozen 0
        have r1 := hT9.cell 1
        have f1 := hT9.frozen 1
        have r2 := hT9.cell 2
        have f2 := hT9.frozen 2
        have r3 := hT9.cell 3
        have f3 := hT9.frozen 3
        go_wp2_with fail
        have hF := (((hT9.set_ 0 (.int .u8 48)).set_ 1 (.string (s.extract k e2))).set_ 2 (.int .i64 k)).set_ 3 (.int .i64 e2)
        have s0 : (World.setCell _ _ _).cell? _ = some (.int .u8 48) := hF.cell 0
        have s1 : (World.setCell _ _ _).cell? _ = some (.string (s.extract k e2)) := hF.cell 1
        have s2 : (World.setCell _ _ _).cell? _ = some (.int .i64 k) := hF.cell 2
        have s3 : (World.setCell _ _ _).cell? _ = some (.int .i64 e2) := hF.cell 3
        exact bodyPost_ret (v := .tuple #[.agg #[.int .u8 48, .string (s.extract k e2), .int .i64 k, .int .i64 e2], .bool true]) (by simp [results, Try.f41, go_sem, s0, s1, s2, s3]) rfl ⟨by unfold numTok; rw [HN.out]; exact ⟨by rw [cut_str]; rfl, (((hR9.far (p := ⟨w.heap.size, 0, none⟩) (Nat.ne_of_lt hgl) _).far (p := ⟨w.heap.size, 1, none⟩) (Nat.ne_of_lt hgl) _).far (p := ⟨w.heap.size, 2, none⟩) (Nat.ne_of_lt hgl) _).far (p := ⟨w.heap.size, 3, none⟩) (Nat.ne_of_lt hgl) _⟩, (((hO9.far (p := ⟨w.heap.size, 0, none⟩) (Nat.le_refl _) _).far (p := ⟨w.heap.size, 1, none⟩) (Nat.le_refl _) _).far (p := ⟨w.heap.size, 2, none⟩) (Nat.le_refl _) _).far (p := ⟨w.heap.size, 3, none⟩) (Nat.le_refl _) _⟩
      · refine (HS2.out e2 101 69 (by decide) (by decide) _ hRs (by omega)).mono ?_
        rintro e w6 ⟨rfl, hR6, hO6⟩
        have hT6 := hTs.only hO6 (by omega)
        have hQ6 := hOs.trans hO6
        clear hRs hTs hOs hO6
        rw [if_pos hb] at hR6
        rw [decide_eq_true hb]
        have hlt := hHx hb
        have hfb2 := hfb (by have := HL.out; omega)
        clear hb HX hHx hfb
        go_wp2_with fail
        refine (HS2.out (e2 + 1) 43 45 (by decide) (by decide) _ hR6 (by omega)).mono ?_
        rintro e w7 ⟨rfl, hR7, hO7⟩
        have hT7 := hT6.only hO7 (by omega)
        have hQ7 := hQ6.trans hO7
        clear hR6 hT6 hQ6 hO7
        have hR7' : Rdr w7 g s (expStart s.data.toList (e2 + 1)) := hR7
        rw [hf] at hR7'
        clear hR7 hf
        generalize (decide (bt s.data.toList (e2 + 1) = (43 : UInt8).toNat ∨ bt s.data.toList (e2 + 1) = (45 : UInt8).toNat)) = b7
        have hfl : f ≤ s.size := by have := HL.out; omega
        go_wp2_with fail
        refine (HD.out f _ hR7' (by omega)).mono ?_
        rintro e w8 ⟨rfl, hR8, hO8⟩
        have hT8 := hT7.only hO8 (by omega)
        have hQ8 := hQ7.trans hO8
        clear hR7' hT7 hQ7 hO8
        have hq : (0 : Int) < (digE s.data.toList f : Int) - (f : Int) := by omega
        rw [he] at hR8 hq ⊢
        clear hd he hfb2
        have c0 := hR8.c0
        have c1 := hR8.c1
        have f1 := hR8.f1
        clear HS1 HS2 HD
        go_upto_region 14 with fail
        have hR9 := hR8.set e3
        have hT9 := Blk.far hT8 (p := ⟨g, 1, none⟩) (by show w.heap.size ≠ g; omega) (.int .i64 e3)
        have hO9 := hQ8.set 1 (.int .i64 e3)
        clear hR8 hT8 hQ8 c0 c1 f1
        generalize w8.setCell ⟨g, 1, none⟩ (.int .i64 e3) = W9 at *
        have c0 := hR9.c0
        have r0 := hT9.cell 0
        have f0 := hT9.frozen 0
        have r1 := hT9.cell 1
        have f1 := hT9.frozen 1
        have r2 := hT9.cell 2
        have f2 := hT9.frozen 2
        have r3 := hT9.cell 3
        have f3 := hT9.frozen 3
        go_wp2_with fail
        have hF := (((hT9.set_ 0 (.int .u8 48)).set_ 1 (.string (s.extract k e3))).set_ 2 (.int .i64 k)).set_ 3 (.int .i64 e3)
        have s0 : (World.setCell _ _ _).cell? _ = some (.int .u8 48) := hF.cell 0
        have s1 : (World.setCell _ _ _).cell? _ = some (.string (s.extract k e3)) := hF.cell 1
        have s2 : (World.setCell _ _ _).cell? _ = some (.int .i64 k) := hF.cell 2
        have s3 : (World.setCell _ _ _).cell? _ = some (.int .i64 e3) := hF.cell 3
        exact bodyPost_ret (v := .tuple #[.agg #[.int .u8 48, .string (s.extract k e3), .int .i64 k, .int .i64 e3], .bool true]) (by simp [results, Try.f41, go_sem, s0, s1, s2, s3]) rfl ⟨by unfold numTok; rw [HN.out]; exact ⟨by rw [cut_str]; rfl, (((hR9.far (p := ⟨w.heap.size, 0, none⟩) (Nat.ne_of_lt hgl) _).far (p := ⟨w.heap.size, 1, none⟩) (Nat.ne_of_lt hgl) _).far (p := ⟨w.heap.size, 2, none⟩) (Nat.ne_of_lt hgl) _).far (p := ⟨w.heap.size, 3, none⟩) (Nat.ne_of_lt hgl) _⟩, (((hO9.far (p := ⟨w.heap.size, 0, none⟩) (Nat.le_refl _) _).far (p := ⟨w.heap.size, 1, none⟩) (Nat.le_refl _) _).far (p := ⟨w.heap.size, 2, none⟩) (Nat.le_refl _) _).far (p := ⟨w.heap.size, 3, none⟩) (Nat.le_refl _) _⟩
      · refine (HS2.out e2 101 69 (by decide) (by decide) _ hRs (by omega)).mono ?_
        rintro e w6 ⟨rfl, hR6, hO6⟩
        have hT6 := hTs.only hO6 (by omega)
        have hQ6 := hOs.trans hO6
        clear hRs hTs hOs hO6
        rw [if_pos hb] at hR6
        rw [decide_eq_true hb]
        have hlt := hHx hb
        have hfb2 := hfb (by have := HL.out; omega)
        clear hb HX hHx hfb
        go_wp2_with fail
        refine (HS2.out (e2 + 1) 43 45 (by decide) (by decide) _ hR6 (by omega)).mono ?_
        rintro e w7 ⟨rfl, hR7, hO7⟩
        have hT7 := hT6.only hO7 (by omega)
        have hQ7 := hQ6.trans hO7
        clear hR6 hT6 hQ6 hO7
        have hR7' : Rdr w7 g s (expStart s.data.toList (e2 + 1)) := hR7
        rw [hf] at hR7'
        clear hR7 hf
        generalize (decide (bt s.data.toList (e2 + 1) = (43 : UInt8).toNat ∨ bt s.data.toList (e2 + 1) = (45 : UInt8).toNat)) = b7
        have hfl : f ≤ s.size := by have := HL.out; omega
        go_wp2_with fail
        refine (HD.out f _ hR7' (by omega)).mono ?_
        rintro e w8 ⟨rfl, hR8, hO8⟩
        have hT8 := hT7.only hO8 (by omega)
        have hQ8 := hQ7.trans hO8
        clear hR7' hT7 hQ7 hO8
        have hq : ¬ ((0 : Int) < (digE s.data.toList f : Int) - (f : Int)) := by omega
        subst he
        have hfb3 := digE_le s.data.toList f (by have := HL.out; omega)
        generalize digE s.data.toList f = d at *
        clear hd hfb2 hfb3
        have c0 := hR8.c0
        have c1 := hR8.c1
        have f1 := hR8.f1
        clear HS1 HS2 HD
        go_upto_region 14 with fail
        have hR9 := hR8.set e2
        have hT9 := Blk.far hT8 (p := ⟨g, 1, none⟩) (by show w.heap.size ≠ g; omega) (.int .i64 e2)
        have hO9 := hQ8.set 1 (.int .i64 e2)
        clear hR8 hT8 hQ8 c0 c1 f1
        generalize w8.setCell ⟨g, 1, none⟩ (.int .i64 e2) = W9 at *
        have c0 := hR9.c0
        have r0 := hT9.cell 0
        have f0 := hT9.frozen 0
        have r1 := hT9.cell 1
        have f1 := hT9.frozen 1
        have r2 := hT9.cell 2
        have f2 := hT9.frozen 2
        have r3 := hT9.cell 3
        have f3 := hT9.frozen 3
        go_wp2_with fail
        have hF := (((hT9.set_ 0 (.int .u8 48)).set_ 1 (.string (s.extract k e2))).set_ 2 (.int .i64 k)).set_ 3 (.int .i64 e2)
        have s0 : (World.setCell _ _ _).cell? _ = some (.int .u8 48) := hF.cell 0
        have s1 : (World.setCell _ _ _).cell? _ = some (.string (s.extract k e2)) := hF.cell 1
        have s2 : (World.setCell _ _ _).cell? _ = some (.int .i64 k) := hF.cell 2
        have s3 : (World.setCell _ _ _).cell? _ = some (.int .i64 e2) := hF.cell 3
        exact bodyPost_ret (v := .tuple #[.agg #[.int .u8 48, .string (s.extract k e2), .int .i64 k, .int .i64 e2], .bool true]) (by simp [results, Try.f41, go_sem, s0, s1, s2, s3]) rfl ⟨by unfold numTok; rw [HN.out]; exact ⟨by rw [cut_str]; rfl, (((hR9.far (p := ⟨w.heap.size, 0, none⟩) (Nat.ne_of_lt hgl) _).far (p := ⟨w.heap.size, 1, none⟩) (Nat.ne_of_lt hgl) _).far (p := ⟨w.heap.size, 2, none⟩) (Nat.ne_of_lt hgl) _).far (p := ⟨w.heap.size, 3, none⟩) (Nat.ne_of_lt hgl) _⟩, (((hO9.far (p := ⟨w.heap.size, 0, none⟩) (Nat.le_refl _) _).far (p := ⟨w.heap.size, 1, none⟩) (Nat.le_refl _) _).far (p := ⟨w.heap.size, 2, none⟩) (Nat.le_refl _) _).far (p := ⟨w.heap.size, 3, none⟩) (Nat.le_refl _) _⟩
    · refine (HS1.out e1 46 (by decide) _ hR2 (by omega)).mono ?_
      rintro e w4 ⟨rfl, hR4, hO4⟩
      have hT4 := hT2.only hO4 (by omega)
      have hQ4 := hO2'.trans hO4
      clear hR2 hT2 hO2' hO4
      rw [if_pos hb] at hR4
      rw [decide_eq_true hb]
      have hlt1 := hHy hb
      clear hb HF c1 hHy
      go_wp2_with fail
      refine (HD.out (e1 + 1) _ hR4 (by omega)).mono ?_
      rintro e w5 ⟨rfl, hR5, hO5⟩
      have hT5 := hT4.only hO5 (by omega)
      have hQ5 := hQ4.trans hO5
      clear hR4 hT4 hQ4 hO5
      have hq : ¬ ((0 : Int) < (digE s.data.toList (e1 + 1) : Int) - ((e1 + 1 : Nat) : Int)) := by omega
      subst he
      generalize digE s.data.toList (e1 + 1) = d at *
      clear hd
      have c0 := hR5.c0
      have c1 := hR5.c1
      have f1 := hR5.f1
      obtain ⟨f, hf⟩ : ∃ f, expStart s.data.toList (e1 + 1) = f := ⟨_, rfl⟩
      have HEb := numExp_bd s.data.toList e1 (by have := HL.out; omega)
      obtain ⟨e3, he3⟩ : ∃ e3, numExp s.data.toList e1 = e3 := ⟨_, rfl⟩
      have HX : Hid ((¬ (bt s.data.toList e1 = (101 : UInt8).toNat ∨ bt s.data.toList e1 = (69 : UInt8).toNat) ∧ e1 = e3) ∨ ((bt s.data.toList e1 = (101 : UInt8).toNat ∨ bt s.data.toList e1 = (69 : UInt8).toNat) ∧ f < digE s.data.toList f ∧ digE s.data.toList f = e3) ∨ ((bt s.data.toList e1 = (101 : UInt8).toNat ∨ bt s.data.toList e1 = (69 : UInt8).toNat) ∧ ¬ f < digE s.data.toList f ∧ e1 = e3)) := by
        show _ ∨ _ ∨ _
        rw [← he3]
        unfold numExp
        rw [hf]
        by_cases h1 : bt s.data.toList e1 = 101 ∨ bt s.data.toList e1 = 69
        · by_cases h2 : f < digE s.data.toList f
          · exact .inr (.inl ⟨h1, h2, by rw [if_pos h1, if_pos h2]⟩)
          · exact .inr (.inr ⟨h1, h2, by rw [if_pos h1, if_neg h2]⟩)
        · exact .inl ⟨h1, by rw [if_neg h1]⟩
      have hHx : (bt s.data.toList e1 = (101 : UInt8).toNat ∨ bt s.data.toList e1 = (69 : UInt8).toNat) → e1 < s.size := fun h => by
        have h3 := bt_pos_lt (l := s.data.toList) (k := e1) (by rcases h with h | h <;> rw [h] <;> decide)
        have := HL.out; omega
      have hfb := fun h : e1 + 1 ≤ s.data.toList.length => expStart_bd s.data.toList (e1 + 1) h
      rw [hf] at hfb
      rw [he3] at HN HEb
      have he3l : e3 ≤ s.size := by have := HL.out; omega
      have hke3 : k ≤ e3 := by omega
      clear he3
      go_upto_region 9 with fail
      have hRs := hR5.set e1
      have hTs := Blk.far hT5 (p := ⟨g, 1, none⟩) (by show w.heap.size ≠ g; omega) (.int .i64 e1)
      have hOs := hQ5.set 1 (.int .i64 e1)
      clear hR5 hT5 hQ5 c0 c1 f1
      generalize w5.setCell ⟨g, 1, none⟩ (.int .i64 e1) = Ws at *
      go_wp2_with fail
      rcases HX.out with ⟨hb, he⟩ | ⟨hb, hd, he⟩ | ⟨hb, hd, he⟩
      · refine (HS2.out e1 101 69 (by decide) (by decide) _ hRs (by omega)).mono ?_
        rintro e w6 ⟨rfl, hR6, hO6⟩
        have hT6 := hTs.only hO6 (by omega)
        have hQ6 := hOs.trans hO6
        clear hRs hTs hOs hO6
        rw [if_neg hb] at hR6
        rw [decide_eq_false hb]
        subst he
        clear hb HX hHx hfb hf
        have c0 := hR6.c0
        have c1 := hR6.c1
        have f1 := hR6.f1
        clear HS1 HS2 HD
        go_upto_region 14 with fail
        have hR9 := hR6.set e1
        have hT9 := Blk.far hT6 (p := ⟨g, 1, none⟩) (by show w.heap.size ≠ g; omega) (.int .i64 e1)
        have hO9 := hQ6.set 1 (.int .i64 e1)
        clear hR6 hT6 hQ6 c0 c1 f1
        generalize w6.setCell ⟨g, 1, none⟩ (.int .i64 e1) = W9 at *
        have c0 := hR9.c0
        have r0 := hT9.cell 0
        have f0 := hT9.frozen 0
        have r1 := hT9.cell 1
        have f1 := hT9.frozen 1
        have r2 := hT9.cell 2
        have f2 := hT9.frozen 2
        have r3 := hT9.cell 3
        have f3 := hT9.frozen 3
        go_wp2_with fail
        have hF := (((hT9.set_ 0 (.int .u8 48)).set_ 1 (.string (s.extract k e1))).set_ 2 (.int .i64 k)).set_ 3 (.int .i64 e1)
        have s0 : (World.setCell _ _ _).cell? _ = some (.int .u8 48) := hF.cell 0
        have s1 : (World.setCell _ _ _).cell? _ = some (.string (s.extract k e1)) := hF.cell 1
        have s2 : (World.setCell _ _ _).cell? _ = some (.int .i64 k) := hF.cell 2
        have s3 : (World.setCell _ _ _).cell? _ = some (.int .i64 e1) := hF.cell 3
        exact bodyPost_ret (v := .tuple #[.agg #[.int .u8 48, .string (s.extract k e1), .int .i64 k, .int .i64 e1], .bool true]) (by simp [results, Try.f41, go_sem, s0, s1, s2, s3]) rfl ⟨by unfold numTok; rw [HN.out]; exact ⟨by rw [cut_str]; rfl, (((hR9.far (p := ⟨w.heap.size, 0, none⟩) (Nat.ne_of_lt hgl) _).far (p := ⟨w.heap.size, 1, none⟩) (Nat.ne_of_lt hgl) _).far (p := ⟨w.heap.size, 2, none⟩) (Nat.ne_of_lt hgl) _).far (p := ⟨w.heap.size, 3, none⟩) (Nat.ne_of_lt hgl) _⟩, (((hO9.far (p := ⟨w.heap.size, 0, none⟩) (Nat.le_refl _) _).far (p := ⟨w.heap.size, 1, none⟩) (Nat.le_refl _) _).far (p := ⟨w.heap.size, 2, none⟩) (Nat.le_refl _) _).far (p := ⟨w.heap.size, 3, none⟩) (Nat.le_refl _) _⟩
      · refine (HS2.out e1 101 69 (by decide) (by decide) _ hRs (by omega)).mono ?_
        rintro e w6 ⟨rfl, hR6, hO6⟩
        have hT6 := hTs.only hO6 (by omega)
        have hQ6 := hOs.trans hO6
        clear hRs hTs hOs hO6
        rw [if_pos hb] at hR6
        rw [decide_eq_true hb]
        have hlt := hHx hb
        have hfb2 := hfb (by have := HL.out; omega)
        clear hb HX hHx hfb
        go_wp2_with fail
        refine (HS2.out (e1 + 1) 43 45 (by decide) (by decide) _ hR6 (by omega)).mono ?_
        rintro e w7 ⟨rfl, hR7, hO7⟩
        have hT7 := hT6.only hO7 (by omega)
        have hQ7 := hQ6.trans hO7
        clear hR6 hT6 hQ6 hO7
        have hR7' : Rdr w7 g s (expStart s.data.toList (e1 + 1)) := hR7
        rw [hf] at hR7'
        clear hR7 hf
        generalize (decide (bt s.data.toList (e1 + 1) = (43 : UInt8).toNat ∨ bt s.data.toList (e1 + 1) = (45 : UInt8).toNat)) = b7
        have hfl : f ≤ s.size := by have := HL.out; omega
        go_wp2_with fail
        refine (HD.out f _ hR7' (by omega)).mono ?_
        rintro e w8 ⟨rfl, hR8, hO8⟩
        have hT8 := hT7.only hO8 (by omega)
        have hQ8 := hQ7.trans hO8
        clear hR7' hT7 hQ7 hO8
        have hq : (0 : Int) < (digE s.data.toList f : Int) - (f : Int) := by omega
        rw [he] at hR8 hq ⊢
        clear hd he hfb2
        have c0 := hR8.c0
        have c1 := hR8.c1
        have f1 := hR8.f1
        clear HS1 HS2 HD
        go_upto_region 14 with fail
        have hR9 := hR8.set e3
        have hT9 := Blk.far hT8 (p := ⟨g, 1, none⟩) (by show w.heap.size ≠ g; omega) (.int .i64 e3)
        have hO9 := hQ8.set 1 (.int .i64 e3)
        clear hR8 hT8 hQ8 c0 c1 f1
        generalize w8.setCell ⟨g, 1, none⟩ (.int .i64 e3) = W9 at *
        have c0 := hR9.c0
        have r0 := hT9.cell 0
        have f0 := hT9.frozen 0
        have r1 := hT9.cell 1
        have f1 := hT9.frozen 1
        have r2 := hT9.cell 2
        have f2 := hT9.frozen 2
        have r3 := hT9.cell 3
        have f3 := hT9.frozen 3
        go_wp2_with fail
        have hF := (((hT9.set_ 0 (.int .u8 48)).set_ 1 (.string (s.extract k e3))).set_ 2 (.int .i64 k)).set_ 3 (.int .i64 e3)
        have s0 : (World.setCell _ _ _).cell? _ = some (.int .u8 48) := hF.cell 0
        have s1 : (World.setCell _ _ _).cell? _ = some (.string (s.extract k e3)) := hF.cell 1
        have s2 : (World.setCell _ _ _).cell? _ = some (.int .i64 k) := hF.cell 2
        have s3 : (World.setCell _ _ _).cell? _ = some (.int .i64 e3) := hF.cell 3
        exact bodyPost_ret (v := .tuple #[.agg #[.int .u8 48, .string (s.extract k e3), .int .i64 k, .int .i64 e3], .bool true]) (by simp [results, Try.f41, go_sem, s0, s1, s2, s3]) rfl ⟨by unfold numTok; rw [HN.out]; exact ⟨by rw [cut_str]; rfl, (((hR9.far (p := ⟨w.heap.size, 0, none⟩) (Nat.ne_of_lt hgl) _).far (p := ⟨w.heap.size, 1, none⟩) (Nat.ne_of_lt hgl) _).far (p := ⟨w.heap.size, 2, none⟩) (Nat.ne_of_lt hgl) _).far (p := ⟨w.heap.size, 3, none⟩) (Nat.ne_of_lt hgl) _⟩, (((hO9.far (p := ⟨w.heap.size, 0, none⟩) (Nat.le_refl _) _).far (p := ⟨w.heap.size, 1, none⟩) (Nat.le_refl _) _).far (p := ⟨w.heap.size, 2, none⟩) (Nat.le_refl _) _).far (p := ⟨w.heap.size, 3, none⟩) (Nat.le_refl _) _⟩
      · refine (HS2.out e1 101 69 (by decide) (by decide) _ hRs (by omega)).mono ?_
        rintro e w6 ⟨rfl, hR6, hO6⟩
        have hT6 := hTs.only hO6 (by omega)
        have hQ6 := hOs.trans hO6
        clear hRs hTs hOs hO6
        rw [if_pos hb] at hR6
        rw [decide_eq_true hb]
        have hlt := hHx hb
        have hfb2 := hfb (by have := HL.out; omega)
        clear hb HX hHx hfb
        go_wp2_with fail
        refine (HS2.out (e1 + 1) 43 45 (by decide) (by decide) _ hR6 (by omega)).mono ?_
        rintro e w7 ⟨rfl, hR7, hO7⟩
        have hT7 := hT6.only hO7 (by omega)
        have hQ7 := hQ6.trans hO7
        clear hR6 hT6 hQ6 hO7
        have hR7' : Rdr w7 g s (expStart s.data.toList (e1 + 1)) := hR7
        rw [hf] at hR7'
        clear hR7 hf
        generalize (decide (bt s.data.toList (e1 + 1) = (43 : UInt8).toNat ∨ bt s.data.toList (e1 + 1) = (45 : UInt8).toNat)) = b7
        have hfl : f ≤ s.size := by have := HL.out; omega
        go_wp2_with fail
        refine (HD.out f _ hR7' (by omega)).mono ?_
        rintro e w8 ⟨rfl, hR8, hO8⟩
        have hT8 := hT7.only hO8 (by omega)
        have hQ8 := hQ7.trans hO8
        clear hR7' hT7 hQ7 hO8
        have hq : ¬ ((0 : Int) < (digE s.data.toList f : Int) - (f : Int)) := by omega
        subst he
        have hfb3 := digE_le s.data.toList f (by have := HL.out; omega)
        generalize digE s.data.toList f = d at *
        clear hd hfb2 hfb3
        have c0 := hR8.c0
        have c1 := hR8.c1
        have f1 := hR8.f1
        clear HS1 HS2 HD
        go_upto_region 14 with fail
        have hR9 := hR8.set e1
        have hT9 := Blk.far hT8 (p := ⟨g, 1, none⟩) (by show w.heap.size ≠ g; omega) (.int .i64 e1)
        have hO9 := hQ8.set 1 (.int .i64 e1)
        clear hR8 hT8 hQ8 c0 c1 f1
        generalize w8.setCell ⟨g, 1, none⟩ (.int .i64 e1) = W9 at *
        have c0 := hR9.c0
        have r0 := hT9.cell 0
        have f0 := hT9.frozen 0
        have r1 := hT9.cell 1
        have f1 := hT9.frozen 1
        have r2 := hT9.cell 2
        have f2 := hT9.frozen 2
        have r3 := hT9.cell 3
        have f3 := hT9.frozen 3
        go_wp2_with fail
        have hF := (((hT9.set_ 0 (.int .u8 48)).set_ 1 (.string (s.extract k e1))).set_ 2 (.int .i64 k)).set_ 3 (.int .i64 e1)
        have s0 : (World.setCell _ _ _).cell? _ = some (.int .u8 48) := hF.cell 0
        have s1 : (World.setCell _ _ _).cell? _ = some (.string (s.extract k e1)) := hF.cell 1
        have s2 : (World.setCell _ _ _).cell? _ = some (.int .i64 k) := hF.cell 2
        have s3 : (World.setCell _ _ _).cell? _ = some (.int .i64 e1) := hF.cell 3
        exact bodyPost_ret (v := .tuple #[.agg #[.int .u8 48, .string (s.extract k e1), .int .i64 k, .int .i64 e1], .bool true]) (by simp [results, Try.f41, go_sem, s0, s1, s2, s3]) rfl ⟨by unfold numTok; rw [HN.out]; exact ⟨by rw [cut_str]; rfl, (((hR9.far (p := ⟨w.heap.size, 0, none⟩) (Nat.ne_of_lt hgl) _).far (p := ⟨w.heap.size, 1, none⟩) (Nat.ne_of_lt hgl) _).far (p := ⟨w.heap.size, 2, none⟩) (Nat.ne_of_lt hgl) _).far (p := ⟨w.heap.size, 3, none⟩) (Nat.ne_of_lt hgl) _⟩, (((hO9.far (p := ⟨w.heap.size, 0, none⟩) (Nat.le_refl _) _).far (p := ⟨w.heap.size, 1, none⟩) (Nat.le_refl _) _).far (p := ⟨w.heap.size, 2, none⟩) (Nat.le_refl _) _).far (p := ⟨w.heap.size, 3, none⟩) (Nat.le_refl _) _⟩
  · rw [if_neg hb1] at hR2
    rw [decide_eq_false hb1]
    by_cases hz : digE s.data.toList k0 = k0
    · rw [if_pos hz] at HN
      go_wp2_with fail
      refine (HD.out k0 _ hR2 (by omega)).mono ?_
      rintro e w3 ⟨rfl, hR3, hO3⟩
      have hT3 := hT2.only hO3 (by omega)
      have hO3' := hO2'.trans hO3
      rw [hz]
      have hq : (((k0 : Int) - (k0 : Int)) == 0) = true := by simp
      clear hR2 hT2 hO2' hO3 hR3 hb1 hz1 hd48 hz
      have r0 := hT3.cell 0
      have f0 := hT3.frozen 0
      have r1 := hT3.cell 1
      have f1 := hT3.frozen 1
      have r2 := hT3.cell 2
      have f2 := hT3.frozen 2
      have r3 := hT3.cell 3
      have f3 := hT3.frozen 3
      go_wp2_with fail
      have hF := (((hT3.set_ 0 (.int .u8 0)).set_ 1 (.string ⟨#[]⟩)).set_ 2 (.int .i64 0)).set_ 3 (.int .i64 0)
      have s0 : (World.setCell _ _ _).cell? _ = some (.int .u8 0) := hF.cell 0
      have s1 : (World.setCell _ _ _).cell? _ = some (.string ⟨#[]⟩) := hF.cell 1
      have s2 : (World.setCell _ _ _).cell? _ = some (.int .i64 0) := hF.cell 2
      have s3 : (World.setCell _ _ _).cell? _ = some (.int .i64 0) := hF.cell 3
      exact bodyPost_ret (v := .tuple #[.agg #[.int .u8 0, .string ⟨#[]⟩, .int .i64 0, .int .i64 0], .bool false]) (by simp [results, Try.f41, go_sem, s0, s1, s2, s3]) rfl ⟨by unfold numTok; rw [HN.out]; exact ⟨_, _, _, _, rfl⟩, (((hO3'.far (p := ⟨w.heap.size, 0, none⟩) (Nat.le_refl _) _).far (p := ⟨w.heap.size, 1, none⟩) (Nat.le_refl _) _).far (p := ⟨w.heap.size, 2, none⟩) (Nat.le_refl _) _).far (p := ⟨w.heap.size, 3, none⟩) (Nat.le_refl _) _⟩
    · rw [if_neg hz] at HN
      have hI : numInt s.data.toList k0 = digE s.data.toList k0 := if_neg hb1
      rw [hI] at HN
      go_wp2_with fail
      refine (HD.out k0 _ hR2 (by omega)).mono ?_
      rintro e w3 ⟨rfl, hR3, hO3⟩
      have hT3 := hT2.only hO3 (by omega)
      have hO3' := hO2'.trans hO3
      have hge := digE_ge s.data.toList k0
      have hle := digE_le s.data.toList k0 (by have := HL.out; omega)
      rw [← HL.out] at hle
      have hq : (((digE s.data.toList k0 : Int) - (k0 : Int)) == 0) = false := by simp; omega
      clear hR2 hT2 hO2' hO3 hb1 hz1 hd48 hz hI
      generalize digE s.data.toList k0 = e1 at *
      have hke : k ≤ e1 := by omega
      have HFb := numFrac_bd s.data.toList e1 (by have := HL.out; omega)
      obtain ⟨e2, he2⟩ : ∃ e2, numFrac s.data.toList e1 = e2 := ⟨_, rfl⟩
      have HF : Hid ((¬ bt s.data.toList e1 = (46 : UInt8).toNat ∧ e1 = e2) ∨ (bt s.data.toList e1 = (46 : UInt8).toNat ∧ e1 + 1 < digE s.data.toList (e1 + 1) ∧ digE s.data.toList (e1 + 1) = e2) ∨ (bt s.data.toList e1 = (46 : UInt8).toNat ∧ ¬ e1 + 1 < digE s.data.toList (e1 + 1) ∧ e1 = e2)) := by
        show _ ∨ _ ∨ _
        rw [← he2]
        unfold numFrac
        by_cases h1 : bt s.data.toList e1 = 46
        · by_cases h2 : e1 + 1 < digE s.data.toList (e1 + 1)
          · exact .inr (.inl ⟨h1, h2, by rw [if_pos ⟨h1, h2⟩]⟩)
          · exact .inr (.inr ⟨h1, h2, by rw [if_neg (fun h => h2 h.2)]⟩)
        · exact .inl ⟨h1, by rw [if_neg (fun h => h1 h.1)]⟩
      rw [he2] at HN HFb
      have he2l : e2 ≤ s.size := by have := HL.out; omega
      have hke2 : k ≤ e2 := by omega
      clear he2
      have hHy : bt s.data.toList e1 = (46 : UInt8).toNat → e1 < s.size := fun h => by
        have h3 := bt_pos_lt (l := s.data.toList) (k := e1) (by rw [h]; decide)
        have := HL.out; omega
      have c1 := hR3.c1
      go_wp2_with fail
      rcases HF.out with ⟨hb, he⟩ | ⟨hb, hd, he⟩ | ⟨hb, hd, he⟩
      · refine (HS1.out e1 46 (by decide) _ hR3 (by omega)).mono ?_
        rintro e w4 ⟨rfl, hR4, hO4⟩
        have hT4 := hT3.only hO4 (by omega)
        have hQ4 := hO3'.trans hO4
        clear hR3 hT3 hO3' hO4
        rw [if_neg hb] at hR4
        rw [decide_eq_false hb]
        subst he
        clear hb HF c1 hHy
        have c0 := hR4.c0
        have c1 := hR4.c1
        have f1 := hR4.f1
        obtain ⟨f, hf⟩ : ∃ f, expStart s.data.toList (e1 + 1) = f := ⟨_, rfl⟩
        have HEb := numExp_bd s.data.toList e1 (by have := HL.out; omega)
        obtain ⟨e3, he3⟩ : ∃ e3, numExp s.data.toList e1 = e3 := ⟨_, rfl⟩
        have HX : Hid ((¬ (bt s.data.toList e1 = (101 : UInt8).toNat ∨ bt s.data.toList e1 = (69 : UInt8).toNat) ∧ e1 = e3) ∨ ((bt s.data.toList e1 = (101 : UInt8).toNat ∨ bt s.data.toList e1 = (69 : UInt8).toNat) ∧ f < digE s.data.toList f ∧ digE s.data.toList f = e3) ∨ ((bt s.data.toList e1 = (101 : UInt8).toNat ∨ bt s.data.toList e1 = (69 : UInt8).toNat) ∧ ¬ f < digE s.data.toList f ∧ e1 = e3)) := by
          show _ ∨ _ ∨ _
          rw [← he3]
          unfold numExp
          rw [hf]
          by_cases h1 : bt s.data.toList e1 = 101 ∨ bt s.data.toList e1 = 69
          · by_cases h2 : f < digE s.data.toList f
            · exact .inr (.inl ⟨h1, h2, by rw [if_pos h1, if_pos h2]⟩)
            · exact .inr (.inr ⟨h1, h2, by rw [if_pos h1, if_neg h2]⟩)
          · exact .inl ⟨h1, by rw [if_neg h1]⟩
        have hHx : (bt s.data.toList e1 = (101 : UInt8).toNat ∨ bt s.data.toList e1 = (69 : UInt8).toNat) → e1 < s.size := fun h => by
          have h3 := bt_pos_lt (l := s.data.toList) (k := e1) (by rcases h with h | h <;> rw [h] <;> decide)
          have := HL.out; omega
        have hfb := fun h : e1 + 1 ≤ s.data.toList.length => expStart_bd s.data.toList (e1 + 1) h
        rw [hf] at hfb
        rw [he3] at HN HEb
        have he3l : e3 ≤ s.size := by have := HL.out; omega
        have hke3 : k ≤ e3 := by omega
        clear he3
        go_upto_region 9 with fail
        have hRs := hR4.set e1
        have hTs := Blk.far hT4 (p := ⟨g, 1, none⟩) (by show w.heap.size ≠ g; omega) (.int .i64 e1)
        have hOs := hQ4.set 1 (.int .i64 e1)
        clear hR4 hT4 hQ4 c0 c1 f1
        generalize w4.setCell ⟨g, 1, none⟩ (.int .i64 e1) = Ws at *
        go_wp2_with fail
        rcases HX.out with ⟨hb, he⟩ | ⟨hb, hd, he⟩ | ⟨hb, hd, he⟩
        · refine (HS2.out e1 101 69 (by decide) (by decide) _ hRs (by omega)).mono ?_
          rintro e w6 ⟨rfl, hR6, hO6⟩
          have hT6 := hTs.only hO6 (by omega)
          have hQ6 := hOs.trans hO6
          clear hRs hTs hOs hO6
          rw [if_neg hb] at hR6
          rw [decide_eq_false hb]
          subst he
          clear hb HX hHx hfb hf
          have c0 := hR6.c0
          have c1 := hR6.c1
          have f1 := hR6.f1
          clear HS1 HS2 HD
          go_upto_region 14 with fail
          have hR9 := hR6.set e1
          have hT9 := Blk.far hT6 (p := ⟨g, 1, none⟩) (by show w.heap.size ≠ g; omega) (.int .i64 e1)
          have hO9 := hQ6.set 1 (.int .i64 e1)
          clear hR6 hT6 hQ6 c0 c1 f1
          generalize w6.setCell ⟨g, 1, none⟩ (.int .i64 e1) = W9 at *
          have c0 := hR9.c0
          have r0 := hT9.cell 0
          have f0 := hT9.frozen 0
          have r1 := hT9.cell 1
          have f1 := hT9.frozen 1
          have r2 := hT9.cell 2
          have f2 := hT9.frozen 2
          have r3 := hT9.cell 3
          have f3 := hT9.frozen 3
          go_wp2_with fail
          have hF := (((hT9.set_ 0 (.int .u8 48)).set_ 1 (.string (s.extract k e1))).set_ 2 (.int .i64 k)).set_ 3 (.int .i64 e1)
          have s0 : (World.setCell _ _ _).cell? _ = some (.int .u8 48) := hF.cell 0
          have s1 : (World.setCell _ _ _).cell? _ = some (.string (s.extract k e1)) := hF.cell 1
          have s2 : (World.setCell _ _ _).cell? _ = some (.int .i64 k) := hF.cell 2
          have s3 : (World.setCell _ _ _).cell? _ = some (.int .i64 e1) := hF.cell 3
          exact bodyPost_ret (v := .tuple #[.agg #[.int .u8 48, .string (s.extract k e1), .int .i64 k, .int .i64 e1], .bool true]) (by simp [results, Try.f41, go_sem, s0, s1, s2, s3]) rfl ⟨by unfold numTok; rw [HN.out]; exact ⟨by rw [cut_str]; rfl, (((hR9.far (p := ⟨w.heap.size, 0, none⟩) (Nat.ne_of_lt hgl) _).far (p := ⟨w.heap.size, 1, none⟩) (Nat.ne_of_lt hgl) _).far (p := ⟨w.heap.size, 2, none⟩) (Nat.ne_of_lt hgl) _).far (p := ⟨w.heap.size, 3, none⟩) (Nat.ne_of_lt hgl) _⟩, (((hO9.far (p := ⟨w.heap.size, 0, none⟩) (Nat.le_refl _) _).far (p := ⟨w.heap.size, 1, none⟩) (Nat.le_refl _) _).far (p := ⟨w.heap.size, 2, none⟩) (Nat.le_refl _) _).far (p := ⟨w.heap.size, 3, none⟩) (Nat.le_refl _) _⟩
        · refine (HS2.out e1 101 69 (by decide) (by decide) _ hRs (by omega)).mono ?_
          rintro e w6 ⟨rfl, hR6, hO6⟩
          have hT6 := hTs.only hO6 (by omega)
          have hQ6 := hOs.trans hO6
          clear hRs hTs hOs hO6
          rw [if_pos hb] at hR6
          rw [decide_eq_true hb]
          have hlt := hHx hb
          have hfb2 := hfb (by have := HL.out; omega)
          clear hb HX hHx hfb
          go_wp2_with fail
          refine (HS2.out (e1 + 1) 43 45 (by decide) (by decide) _ hR6 (by omega)).mono ?_
          rintro e w7 ⟨rfl, hR7, hO7⟩
          have hT7 := hT6.only hO7 (by omega)
          have hQ7 := hQ6.trans hO7
          clear hR6 hT6 hQ6 hO7
          have hR7' : Rdr w7 g s (expStart s.data.toList (e1 + 1)) := hR7
          rw [hf] at hR7'
          clear hR7 hf
          generalize (decide (bt s.data.toList (e1 + 1) = (43 : UInt8).toNat ∨ bt s.data.toList (e1 + 1) = (45 : UInt8).toNat)) = b7
          have hfl : f ≤ s.size := by have := HL.out; omega
          go_wp2_with fail
          refine (HD.out f _ hR7' (by omega)).mono ?_
          rintro e w8 ⟨rfl, hR8, hO8⟩
          have hT8 := hT7.only hO8 (by omega)
          have hQ8 := hQ7.trans hO8
          clear hR7' hT7 hQ7 hO8
          have hq : (0 : Int) < (digE s.data.toList f : Int) - (f : Int) := by omega
          rw [he] at hR8 hq ⊢
          clear hd he hfb2
          have c0 := hR8.c0
          have c1 := hR8.c1
          have f1 := hR8.f1
          clear HS1 HS2 HD
          go_upto_region 14 with fail
          have hR9 := hR8.set e3
          have hT9 := Blk.far hT8 (p := ⟨g, 1, none⟩) (by show w.heap.size ≠ g; omega) (.int .i64 e3)
          have hO9 := hQ8.set 1 (.int .i64 e3)
          clear hR8 hT8 hQ8 c0 c1 f1
          generalize w8.setCell ⟨g, 1, none⟩ (.int .i64 e3) = W9 at *
          have c0 := hR9.c0
          have r0 := hT9.cell 0
          have f0 := hT9.frozen 0
          have r1 := hT9.cell 1
          have f1 := hT9.frozen 1
          have r2 := hT9.cell 2
          have f2 := hT9.frozen 2
          have r3 := hT9.cell 3
          have f3 := hT9.frozen 3
          go_wp2_with fail
          have hF := (((hT9.set_ 0 (.int .u8 48)).set_ 1 (.string (s.extract k e3))).set_ 2 (.int .i64 k)).set_ 3 (.int .i64 e3)
          have s0 : (World.setCell _ _ _).cell? _ = some (.int .u8 48) := hF.cell 0
          have s1 : (World.setCell _ _ _).cell? _ = some (.string (s.extract k e3)) := hF.cell 1
          have s2 : (World.setCell _ _ _).cell? _ = some (.int .i64 k) := hF.cell 2
          have s3 : (World.setCell _ _ _).cell? _ = some (.int .i64 e3) := hF.cell 3
          exact bodyPost_ret (v := .tuple #[.agg #[.int .u8 48, .string (s.extract k e3), .int .i64 k, .int .i64 e3], .bool true]) (by simp [results, Try.f41, go_sem, s0, s1, s2, s3]) rfl ⟨by unfold numTok; rw [HN.out]; exact ⟨by rw [cut_str]; rfl, (((hR9.far (p := ⟨w.heap.size, 0, none⟩) (Nat.ne_of_lt hgl) _).far (p := ⟨w.heap.size, 1, none⟩) (Nat.ne_of_lt hgl) _).far (p := ⟨w.heap.size, 2, none⟩) (Nat.ne_of_lt hgl) _).far (p := ⟨w.heap.size, 3, none⟩) (Nat.ne_of_lt hgl) _⟩, (((hO9.far (p := ⟨w.heap.size, 0, none⟩) (Nat.le_refl _) _).far (p := ⟨w.heap.size, 1, none⟩) (Nat.le_refl _) _).far (p := ⟨w.heap.size, 2, none⟩) (Nat.le_refl _) _).far (p := ⟨w.heap.size, 3, none⟩) (Nat.le_refl _) _⟩
        · refine (HS2.out e1 101 69 (by decide) (by decide) _ hRs (by omega)).mono ?_
          rintro e w6 ⟨rfl, hR6, hO6⟩
          have hT6 := hTs.only hO6 (by omega)
          have hQ6 := hOs.trans hO6
          clear hRs hTs hOs hO6
          rw [if_pos hb] at hR6
          rw [decide_eq_true hb]
          have hlt := hHx hb
          have hfb2 := hfb (by have := HL.out; omega)
          clear hb HX hHx hfb
          go_wp2_with fail
          refine (HS2.out (e1 + 1) 43 45 (by decide) (by decide) _ hR6 (by omega)).mono ?_
          rintro e w7 ⟨rfl, hR7, hO7⟩
          have hT7 := hT6.only hO7 (by omega)
          have hQ7 := hQ6.trans hO7
          clear hR6 hT6 hQ6 hO7
          have hR7' : Rdr w7 g s (expStart s.data.toList (e1 + 1)) := hR7
          rw [hf] at hR7'
          clear hR7 hf
          generalize (decide (bt s.data.toList (e1 + 1) = (43 : UInt8).toNat ∨ bt s.data.toList (e1 + 1) = (45 : UInt8).toNat)) = b7
          have hfl : f ≤ s.size := by have := HL.out; omega
          go_wp2_with fail
          refine (HD.out f _ hR7' (by omega)).mono ?_
          rintro e w8 ⟨rfl, hR8, hO8⟩
          have hT8 := hT7.only hO8 (by omega)
          have hQ8 := hQ7.trans hO8
          clear hR7' hT7 hQ7 hO8
          have hq : ¬ ((0 : Int) < (digE s.data.toList f : Int) - (f : Int)) := by omega
          subst he
          have hfb3 := digE_le s.data.toList f (by have := HL.out; omega)
          generalize digE s.data.toList f = d at *
          clear hd hfb2 hfb3
          have c0 := hR8.c0
          have c1 := hR8.c1
          have f1 := hR8.f1
          clear HS1 HS2 HD
          go_upto_region 14 with fail
          have hR9 := hR8.set e1
          have hT9 := Blk.far hT8 (p := ⟨g, 1, none⟩) (by show w.heap.size ≠ g; omega) (.int .i64 e1)
          have hO9 := hQ8.set 1 (.int .i64 e1)
          clear hR8 hT8 hQ8 c0 c1 f1
          generalize w8.setCell ⟨g, 1, none⟩ (.int .i64 e1) = W9 at *
          have c0 := hR9.c0
          have r0 := hT9.cell 0
          have f0 := hT9.frozen 0
          have r1 := hT9.cell 1
          have f1 := hT9.frozen 1
          have r2 := hT9.cell 2
          have f2 := hT9.frozen 2
          have r3 := hT9.cell 3
          have f3 := hT9.frozen 3
          go_wp2_with fail
          have hF := (((hT9.set_ 0 (.int .u8 48)).set_ 1 (.string (s.extract k e1))).set_ 2 (.int .i64 k)).set_ 3 (.int .i64 e1)
          have s0 : (World.setCell _ _ _).cell? _ = some (.int .u8 48) := hF.cell 0
          have s1 : (World.setCell _ _ _).cell? _ = some (.string (s.extract k e1)) := hF.cell 1
          have s2 : (World.setCell _ _ _).cell? _ = some (.int .i64 k) := hF.cell 2
          have s3 : (World.setCell _ _ _).cell? _ = some (.int .i64 e1) := hF.cell 3
          exact bodyPost_ret (v := .tuple #[.agg #[.int .u8 48, .string (s.extract k e1), .int .i64 k, .int .i64 e1], .bool true]) (by simp [results, Try.f41, go_sem, s0, s1, s2, s3]) rfl ⟨by unfold numTok; rw [HN.out]; exact ⟨by rw [cut_str]; rfl, (((hR9.far (p := ⟨w.heap.size, 0, none⟩) (Nat.ne_of_lt hgl) _).far (p := ⟨w.heap.size, 1, none⟩) (Nat.ne_of_lt hgl) _).far (p := ⟨w.heap.size, 2, none⟩) (Nat.ne_of_lt hgl) _).far (p := ⟨w.heap.size, 3, none⟩) (Nat.ne_of_lt hgl) _⟩, (((hO9.far (p := ⟨w.heap.size, 0, none⟩) (Nat.le_refl _) _).far (p := ⟨w.heap.size, 1, none⟩) (Nat.le_refl _) _).far (p := ⟨w.heap.size, 2, none⟩) (Nat.le_refl _) _).far (p := ⟨w.heap.size, 3, none⟩) (Nat.le_refl _) _⟩
      · refine (HS1.out e1 46 (by decide) _ hR3 (by omega)).mono ?_
        rintro e w4 ⟨rfl, hR4, hO4⟩
        have hT4 := hT3.only hO4 (by omega)
        have hQ4 := hO3'.trans hO4
        clear hR3 hT3 hO3' hO4
        rw [if_pos hb] at hR4
        rw [decide_eq_true hb]
        have hlt1 := hHy hb
        clear hb HF c1 hHy
        go_wp2_with fail
        refine (HD.out (e1 + 1) _ hR4 (by omega)).mono ?_
        rintro e w5 ⟨rfl, hR5, hO5⟩
        have hT5 := hT4.only hO5 (by omega)
        have hQ5 := hQ4.trans hO5
        clear hR4 hT4 hQ4 hO5
        have hq : (0 : Int) < (digE s.data.toList (e1 + 1) : Int) - ((e1 + 1 : Nat) : Int) := by omega
        rw [he] at hR5 hq ⊢
        clear hd he
        have c0 := hR5.c0
        have c1 := hR5.c1
        have f1 := hR5.f1
        obtain ⟨f, hf⟩ : ∃ f, expStart s.data.toList (e2 + 1) = f := ⟨_, rfl⟩
        have HEb := numExp_bd s.data.toList e2 (by have := HL.out; omega)
        obtain ⟨e3, he3⟩ : ∃ e3, numExp s.data.toList e2 = e3 := ⟨_, rfl⟩
        have HX : Hid ((¬ (bt s.data.toList e2 = (101 : UInt8).toNat ∨ bt s.data.toList e2 = (69 : UInt8).toNat) ∧ e2 = e3) ∨ ((bt s.data.toList e2 = (101 : UInt8).toNat ∨ bt s.data.toList e2 = (69 : UInt8).toNat) ∧ f < digE s.data.toList f ∧ digE s.data.toList f = e3) ∨ ((bt s.data.toList e2 = (101 : UInt8).toNat ∨ bt s.data.toList e2 = (69 : UInt8).toNat) ∧ ¬ f < digE s.data.toList f ∧ e2 = e3)) := by
          show _ ∨ _ ∨ _
          rw [← he3]
          unfold numExp
          rw [hf]
          by_cases h1 : bt s.data.toList e2 = 101 ∨ bt s.data.toList e2 = 69
          · by_cases h2 : f < digE s.data.toList f
            · exact .inr (.inl ⟨h1, h2, by rw [if_pos h1, if_pos h2]⟩)
            · exact .inr (.inr ⟨h1, h2, by rw [if_pos h1, if_neg h2]⟩)
          · exact .inl ⟨h1, by rw [if_neg h1]⟩
        have hHx : (bt s.data.toList e2 = (101 : UInt8).toNat ∨ bt s.data.toList e2 = (69 : UInt8).toNat) → e2 < s.size := fun h => by
          have h3 := bt_pos_lt (l := s.data.toList) (k := e2) (by rcases h with h | h <;> rw [h] <;> decide)
          have := HL.out; omega
        have hfb := fun h : e2 + 1 ≤ s.data.toList.length => expStart_bd s.data.toList (e2 + 1) h
        rw [hf] at hfb
        rw [he3] at HN HEb
        have he3l : e3 ≤ s.size := by have := HL.out; omega
        have hke3 : k ≤ e3 := by omega
        clear he3
        go_upto_region 9 with fail
        have hRs := hR5.set e2
        have hTs := Blk.far hT5 (p := ⟨g, 1, none⟩) (by show w.heap.size ≠ g; omega) (.int .i64 e2)
        have hOs := hQ5.set 1 (.int .i64 e2)
        clear hR5 hT5 hQ5 c0 c1 f1
        generalize w5.setCell ⟨g, 1, none⟩ (.int .i64 e2) = Ws at *
        go_wp2_with fail
        rcases HX.out with ⟨hb, he⟩ | ⟨hb, hd, he⟩ | ⟨hb, hd, he⟩
        · refine (HS2.out e2 101 69 (by decide) (by decide) _ hRs (by omega)).mono ?_
          rintro e w6 ⟨rfl, hR6, hO6⟩
          have hT6 := hTs.only hO6 (by omega)
          have hQ6 := hOs.trans hO6
          clear hRs hTs hOs hO6
          rw [if_neg hb] at hR6
          rw [decide_eq_false hb]
          subst he
          clear hb HX hHx hfb hf
          have c0 := hR6.c0
          have c1 := hR6.c1
          have f1 := hR6.f1
          clear HS1 HS2 HD
          go_upto_region 14 with fail
          have hR9 := hR6.set e2
          have hT9 := Blk.far hT6 (p := ⟨g, 1, none⟩) (by show w.heap.size ≠ g; omega) (.int .i64 e2)
          have hO9 := hQ6.set 1 (.int .i64 e2)
          clear hR6 hT6 hQ6 c0 c1 f1
          generalize w6.setCell ⟨g, 1, none⟩ (.int .i64 e2) = W9 at *
          have c0 := hR9.c0
          have r0 := hT9.cell 0
          have f0 := hT9.frozen 0
          have r1 := hT9.cell 1
          have f1 := hT9.frozen 1
          have r2 := hT9.cell 2
          have f2 := hT9.frozen 2
          have r3 := hT9.cell 3
          have f3 := hT9.frozen 3
          go_wp2_with fail
          have hF := (((hT9.set_ 0 (.int .u8 48)).set_ 1 (.string (s.extract k e2))).set_ 2 (.int .i64 k)).set_ 3 (.int .i64 e2)
          have s0 : (World.setCell _ _ _).cell? _ = some (.int .u8 48) := hF.cell 0
          have s1 : (World.setCell _ _ _).cell? _ = some (.string (s.extract k e2)) := hF.cell 1
          have s2 : (World.setCell _ _ _).cell? _ = some (.int .i64 k) := hF.cell 2
          have s3 : (World.setCell _ _ _).cell? _ = some (.int .i64 e2) := hF.cell 3
          exact bodyPost_ret (v := .tuple #[.agg #[.int .u8 48, .string (s.extract k e2), .int .i64 k, .int .i64 e2], .bool true]) (by simp [results, Try.f41, go_sem, s0, s1, s2, s3]) rfl ⟨by unfold numTok; rw [HN.out]; exact ⟨by rw [cut_str]; rfl, (((hR9.far (p := ⟨w.heap.size, 0, none⟩) (Nat.ne_of_lt hgl) _).far (p := ⟨w.heap.size, 1, none⟩) (Nat.ne_of_lt hgl) _).far (p := ⟨w.heap.size, 2, none⟩) (Nat.ne_of_lt hgl) _).far (p := ⟨w.heap.size, 3, none⟩) (Nat.ne_of_lt hgl) _⟩, (((hO9.far (p := ⟨w.heap.size, 0, none⟩) (Nat.le_refl _) _).far (p := ⟨w.heap.size, 1, none⟩) (Nat.le_refl _) _).far (p := ⟨w.heap.size, 2, none⟩) (Nat.le_refl _) _).far (p := ⟨w.heap.size, 3, none⟩) (Nat.le_refl _) _⟩
        · refine (HS2.out e2 101 69 (by decide) (by decide) _ hRs (by omega)).mono ?_
          rintro e w6 ⟨rfl, hR6, hO6⟩
          have hT6 := hTs.only hO6 (by omega)
          have hQ6 := hOs.trans hO6
          clear hRs hTs hOs hO6
          rw [if_pos hb] at hR6
          rw [decide_eq_true hb]
          have hlt := hHx hb
          have hfb2 := hfb (by have := HL.out; omega)
          clear hb HX hHx hfb
          go_wp2_with fail
          refine (HS2.out (e2 + 1) 43 45 (by decide) (by decide) _ hR6 (by omega)).mono ?_
          rintro e w7 ⟨rfl, hR7, hO7⟩
          have hT7 := hT6.only hO7 (by omega)
          have hQ7 := hQ6.trans hO7
          clear hR6 hT6 hQ6 hO7
          have hR7' : Rdr w7 g s (expStart s.data.toList (e2 + 1)) := hR7
          rw [hf] at hR7'
          clear hR7 hf
          generalize (decide (bt s.data.toList (e2 + 1) = (43 : UInt8).toNat ∨ bt s.data.toList (e2 + 1) = (45 : UInt8).toNat)) = b7
          have hfl : f ≤ s.size := by have := HL.out; omega
          go_wp2_with fail
          refine (HD.out f _ hR7' (by omega)).mono ?_
          rintro e w8 ⟨rfl, hR8, hO8⟩
          have hT8 := hT7.only hO8 (by omega)
          have hQ8 := hQ7.trans hO8
          clear hR7' hT7 hQ7 hO8
          have hq : (0 : Int) < (digE s.data.toList f : Int) - (f : Int) := by omega
          rw [he] at hR8 hq ⊢
          clear hd he hfb2
          have c0 := hR8.c0
          have c1 := hR8.c1
          have f1 := hR8.f1
          clear HS1 HS2 HD
          go_upto_region 14 with fail
          have hR9 := hR8.set e3
          have hT9 := Blk.far hT8 (p := ⟨g, 1, none⟩) (by show w.heap.size ≠ g; omega) (.int .i64 e3)
          have hO9 := hQ8.set 1 (.int .i64 e3)
          clear hR8 hT8 hQ8 c0 c1 f1
          generalize w8.setCell ⟨g, 1, none⟩ (.int .i64 e3) = W9 at *
          have c0 := hR9.c0
          have r0 := hT9.cell 0
          have f0 := hT9.frozen 0
          have r1 := hT9.cell 1
          have f1 := hT9.frozen 1
          have r2 := hT9.cell 2
          have f2 := hT9.frozen 2
          have r3 := hT9.cell 3
          have f3 := hT9.frozen 3
          go_wp2_with fail
          have hF := (((hT9.set_ 0 (.int .u8 48)).set_ 1 (.string (s.extract k e3))).set_ 2 (.int .i64 k)).set_ 3 (.int .i64 e3)
          have s0 : (World.setCell _ _ _).cell? _ = some (.int .u8 48) := hF.cell 0
          have s1 : (World.setCell _ _ _).cell? _ = some (.string (s.extract k e3)) := hF.cell 1
          have s2 : (World.setCell _ _ _).cell? _ = some (.int .i64 k) := hF.cell 2
          have s3 : (World.setCell _ _ _).cell? _ = some (.int .i64 e3) := hF.cell 3
          exact bodyPost_ret (v := .tuple #[.agg #[.int .u8 48, .string (s.extract k e3), .int .i64 k, .int .i64 e3], .bool true]) (by simp [results, Try.f41, go_sem, s0, s1, s2, s3]) rfl ⟨by unfold numTok; rw [HN.out]; exact ⟨by rw [cut_str]; rfl, (((hR9.far (p := ⟨w.heap.size, 0, none⟩) (Nat.ne_of_lt hgl) _).far (p := ⟨w.heap.size, 1, none⟩) (Nat.ne_of_lt hgl) _).far (p := ⟨w.heap.size, 2, none⟩) (Nat.ne_of_lt hgl) _).far (p := ⟨w.heap.size, 3, none⟩) (Nat.ne_of_lt hgl) _⟩, (((hO9.far (p := ⟨w.heap.size, 0, none⟩) (Nat.le_refl _) _).far (p := ⟨w.heap.size, 1, none⟩) (Nat.le_refl _) _).far (p := ⟨w.heap.size, 2, none⟩) (Nat.le_refl _) _).far (p := ⟨w.heap.size, 3, none⟩) (Nat.le_refl _) _⟩
        · refine (HS2.out e2 101 69 (by decide) (by decide) _ hRs (by omega)).mono ?_
          rintro e w6 ⟨rfl, hR6, hO6⟩
          have hT6 := hTs.only hO6 (by omega)
          have hQ6 := hOs.trans hO6
          clear hRs hTs hOs hO6
          rw [if_pos hb] at hR6
          rw [decide_eq_true hb]
          have hlt := hHx hb
          have hfb2 := hfb (by have := HL.out; omega)
          clear hb HX hHx hfb
          go_wp2_with fail
          refine (HS2.out (e2 + 1) 43 45 (by decide) (by decide) _ hR6 (by omega)).mono ?_
          rintro e w7 ⟨rfl, hR7, hO7⟩
          have hT7 := hT6.only hO7 (by omega)
          have hQ7 := hQ6.trans hO7
          clear hR6 hT6 hQ6 hO7
          have hR7' : Rdr w7 g s (expStart s.data.toList (e2 + 1)) := hR7
          rw [hf] at hR7'
          clear hR7 hf
          generalize (decide (bt s.data.toList (e2 + 1) = (43 : UInt8).toNat ∨ bt s.data.toList (e2 + 1) = (45 : UInt8).toNat)) = b7
          have hfl : f ≤ s.size := by have := HL.out; omega
          go_wp2_with fail
          refine (HD.out f _ hR7' (by omega)).mono ?_
          rintro e w8 ⟨rfl, hR8, hO8⟩
          have hT8 := hT7.only hO8 (by omega)
          have hQ8 := hQ7.trans hO8
          clear hR7' hT7 hQ7 hO8
          have hq : ¬ ((0 : Int) < (digE s.data.toList f : Int) - (f : Int)) := by omega
          subst he
          have hfb3 := digE_le s.data.toList f (by have := HL.out; omega)
          generalize digE s.data.toList f = d at *
          clear hd hfb2 hfb3
          have c0 := hR8.c0
          have c1 := hR8.c1
          have f1 := hR8.f1
          clear HS1 HS2 HD
          go_upto_region 14 with fail
          have hR9 := hR8.set e2
          have hT9 := Blk.far hT8 (p := ⟨g, 1, none⟩) (by show w.heap.size ≠ g; omega) (.int .i64 e2)
          have hO9 := hQ8.set 1 (.int .i64 e2)
          clear hR8 hT8 hQ8 c0 c1 f1
          generalize w8.setCell ⟨g, 1, none⟩ (.int .i64 e2) = W9 at *
          have c0 := hR9.c0
          have r0 := hT9.cell 0
          have f0 := hT9.frozen 0
          have r1 := hT9.cell 1
          have f1 := hT9.frozen 1
          have r2 := hT9.cell 2
          have f2 := hT9.frozen 2
          have r3 := hT9.cell 3
          have f3 := hT9.frozen 3
          go_wp2_with fail
          have hF := (((hT9.set_ 0 (.int .u8 48)).set_ 1 (.string (s.extract k e2))).set_ 2 (.int .i64 k)).set_ 3 (.int .i64 e2)
          have s0 : (World.setCell _ _ _).cell? _ = some (.int .u8 48) := hF.cell 0
          have s1 : (World.setCell _ _ _).cell? _ = some (.string (s.extract k e2)) := hF.cell 1
          have s2 : (World.setCell _ _ _).cell? _ = some (.int .i64 k) := hF.cell 2
          have s3 : (World.setCell _ _ _).cell? _ = some (.int .i64 e2) := hF.cell 3
          exact bodyPost_ret (v := .tuple #[.agg #[.int .u8 48, .string (s.extract k e2), .int .i64 k, .int .i64 e2], .bool true]) (by simp [results, Try.f41, go_sem, s0, s1, s2, s3]) rfl ⟨by unfold numTok; rw [HN.out]; exact ⟨by rw [cut_str]; rfl, (((hR9.far (p := ⟨w.heap.size, 0, none⟩) (Nat.ne_of_lt hgl) _).far (p := ⟨w.heap.size, 1, none⟩) (Nat.ne_of_lt hgl) _).far (p := ⟨w.heap.size, 2, none⟩) (Nat.ne_of_lt hgl) _).far (p := ⟨w.heap.size, 3, none⟩) (Nat.ne_of_lt hgl) _⟩, (((hO9.far (p := ⟨w.heap.size, 0, none⟩) (Nat.le_refl _) _).far (p := ⟨w.heap.size, 1, none⟩) (Nat.le_refl _) _).far (p := ⟨w.heap.size, 2, none⟩) (Nat.le_refl _) _).far (p := ⟨w.heap.size, 3, none⟩) (Nat.le_refl _) _⟩
      · refine (HS1.out e1 46 (by decide) _ hR3 (by omega)).mono ?_
        rintro e w4 ⟨rfl, hR4, hO4⟩
        have hT4 := hT3.only hO4 (by omega)
        have hQ4 := hO3'.trans hO4
        clear hR3 hT3 hO3' hO4
        rw [if_pos hb] at hR4
        rw [decide_eq_true hb]
        have hlt1 := hHy hb
        clear hb HF c1 hHy
        go_wp2_with fail
        refine (HD.out (e1 + 1) _ hR4 (by omega)).mono ?_
        rintro e w5 ⟨rfl, hR5, hO5⟩
        have hT5 := hT4.only hO5 (by omega)
        have hQ5 := hQ4.trans hO5
        clear hR4 hT4 hQ4 hO5
        have hq : ¬ ((0 : Int) < (digE s.data.toList (e1 + 1) : Int) - ((e1 + 1 : Nat) : Int)) := by omega
        subst he
        generalize digE s.data.toList (e1 + 1) = d at *
        clear hd
        have c0 := hR5.c0
        have c1 := hR5.c1
        have f1 := hR5.f1
        obtain ⟨f, hf⟩ : ∃ f, expStart s.data.toList (e1 + 1) = f := ⟨_, rfl⟩
        have HEb := numExp_bd s.data.toList e1 (by have := HL.out; omega)
        obtain ⟨e3, he3⟩ : ∃ e3, numExp s.data.toList e1 = e3 := ⟨_, rfl⟩
        have HX : Hid ((¬ (bt s.data.toList e1 = (101 : UInt8).toNat ∨ bt s.data.toList e1 = (69 : UInt8).toNat) ∧ e1 = e3) ∨ ((bt s.data.toList e1 = (101 : UInt8).toNat ∨ bt s.data.toList e1 = (69 : UInt8).toNat) ∧ f < digE s.data.toList f ∧ digE s.data.toList f = e3) ∨ ((bt s.data.toList e1 = (101 : UInt8).toNat ∨ bt s.data.toList e1 = (69 : UInt8).toNat) ∧ ¬ f < digE s.data.toList f ∧ e1 = e3)) := by
          show _ ∨ _ ∨ _
          rw [← he3]
          unfold numExp
          rw [hf]
          by_cases h1 : bt s.data.toList e1 = 101 ∨ bt s.data.toList e1 = 69
          · by_cases h2 : f < digE s.data.toList f
            · exact .inr (.inl ⟨h1, h2, by rw [if_pos h1, if_pos h2]⟩)
            · exact .inr (.inr ⟨h1, h2, by rw [if_pos h1, if_neg h2]⟩)
          · exact .inl ⟨h1, by rw [if_neg h1]⟩
        have hHx : (bt s.data.toList e1 = (101 : UInt8).toNat ∨ bt s.data.toList e1 = (69 : UInt8).toNat) → e1 < s.size := fun h => by
          have h3 := bt_pos_lt (l := s.data.toList) (k := e1) (by rcases h with h | h <;> rw [h] <;> decide)
          have := HL.out; omega
        have hfb := fun h : e1 + 1 ≤ s.data.toList.length => expStart_bd s.data.toList (e1 + 1) h
        rw [hf] at hfb
        rw [he3] at HN HEb
        have he3l : e3 ≤ s.size := by have := HL.out; omega
        have hke3 : k ≤ e3 := by omega
        clear he3
        go_upto_region 9 with fail
        have hRs := hR5.set e1
        have hTs := Blk.far hT5 (p := ⟨g, 1, none⟩) (by show w.heap.size ≠ g; omega) (.int .i64 e1)
        have hOs := hQ5.set 1 (.int .i64 e1)
        clear hR5 hT5 hQ5 c0 c1 f1
        generalize w5.setCell ⟨g, 1, none⟩ (.int .i64 e1) = Ws at *
        go_wp2_with fail
        rcases HX.out with ⟨hb, he⟩ | ⟨hb, hd, he⟩ | ⟨hb, hd, he⟩
        · refine (HS2.out e1 101 69 (by decide) (by decide) _ hRs (by omega)).mono ?_
          rintro e w6 ⟨rfl, hR6, hO6⟩
          have hT6 := hTs.only hO6 (by omega)
          have hQ6 := hOs.trans hO6
          clear hRs hTs hOs hO6
          rw [if_neg hb] at hR6
          rw [decide_eq_false hb]
          subst he
          clear hb HX hHx hfb hf
          have c0 := hR6.c0
          have c1 := hR6.c1
          have f1 := hR6.f1
          clear HS1 HS2 HD
          go_upto_region 14 with fail
          have hR9 := hR6.set e1
          have hT9 := Blk.far hT6 (p := ⟨g, 1, none⟩) (by show w.heap.size ≠ g; omega) (.int .i64 e1)
          have hO9 := hQ6.set 1 (.int .i64 e1)
          clear hR6 hT6 hQ6 c0 c1 f1
          generalize w6.setCell ⟨g, 1, none⟩ (.int .i64 e1) = W9 at *
          have c0 := hR9.c0
          have r0 := hT9.cell 0
          have f0 := hT9.frozen 0
          have r1 := hT9.cell 1
          have f1 := hT9.frozen 1
          have r2 := hT9.cell 2
          have f2 := hT9.frozen 2
          have r3 := hT9.cell 3
          have f3 := hT9.frozen 3
          go_wp2_with fail
          have hF := (((hT9.set_ 0 (.int .u8 48)).set_ 1 (.string (s.extract k e1))).set_ 2 (.int .i64 k)).set_ 3 (.int .i64 e1)
          have s0 : (World.setCell _ _ _).cell? _ = some (.int .u8 48) := hF.cell 0
          have s1 : (World.setCell _ _ _).cell? _ = some (.string (s.extract k e1)) := hF.cell 1
          have s2 : (World.setCell _ _ _).cell? _ = some (.int .i64 k) := hF.cell 2
          have s3 : (World.setCell _ _ _).cell? _ = some (.int .i64 e1) := hF.cell 3
          exact bodyPost_ret (v := .tuple #[.agg #[.int .u8 48, .string (s.extract k e1), .int .i64 k, .int .i64 e1], .bool true]) (by simp [results, Try.f41, go_sem, s0, s1, s2, s3]) rfl ⟨by unfold numTok; rw [HN.out]; exact ⟨by rw [cut_str]; rfl, (((hR9.far (p := ⟨w.heap.size, 0, none⟩) (Nat.ne_of_lt hgl) _).far (p := ⟨w.heap.size, 1, none⟩) (Nat.ne_of_lt hgl) _).far (p := ⟨w.heap.size, 2, none⟩) (Nat.ne_of_lt hgl) _).far (p := ⟨w.heap.size, 3, none⟩) (Nat.ne_of_lt hgl) _⟩, (((hO9.far (p := ⟨w.heap.size, 0, none⟩) (Nat.le_refl _) _).far (p := ⟨w.heap.size, 1, none⟩) (Nat.le_refl _) _).far (p := ⟨w.heap.size, 2, none⟩) (Nat.le_refl _) _).far (p := ⟨w.heap.size, 3, none⟩) (Nat.le_refl _) _⟩
        · refine (HS2.out e1 101 69 (by decide) (by decide) _ hRs (by omega)).mono ?_
          rintro e w6 ⟨rfl, hR6, hO6⟩
          have hT6 := hTs.only hO6 (by omega)
          have hQ6 := hOs.trans hO6
          clear hRs hTs hOs hO6
          rw [if_pos hb] at hR6
          rw [decide_eq_true hb]
          have hlt := hHx hb
          have hfb2 := hfb (by have := HL.out; omega)
          clear hb HX hHx hfb
          go_wp2_with fail
          refine (HS2.out (e1 + 1) 43 45 (by decide) (by decide) _ hR6 (by omega)).mono ?_
          rintro e w7 ⟨rfl, hR7, hO7⟩
          have hT7 := hT6.only hO7 (by omega)
          have hQ7 := hQ6.trans hO7
          clear hR6 hT6 hQ6 hO7
          have hR7' : Rdr w7 g s (expStart s.data.toList (e1 + 1)) := hR7
          rw [hf] at hR7'
          clear hR7 hf
          generalize (decide (bt s.data.toList (e1 + 1) = (43 : UInt8).toNat ∨ bt s.data.toList (e1 + 1) = (45 : UInt8).toNat)) = b7
          have hfl : f ≤ s.size := by have := HL.out; omega
          go_wp2_with fail
          refine (HD.out f _ hR7' (by omega)).mono ?_
          rintro e w8 ⟨rfl, hR8, hO8⟩
          have hT8 := hT7.only hO8 (by omega)
          have hQ8 := hQ7.trans hO8
          clear hR7' hT7 hQ7 hO8
          have hq : (0 : Int) < (digE s.data.toList f : Int) - (f : Int) := by omega
          rw [he] at hR8 hq ⊢
          clear hd he hfb2
          have c0 := hR8.c0
          have c1 := hR8.c1
          have f1 := hR8.f1
          clear HS1 HS2 HD
          go_upto_region 14 with fail
          have hR9 := hR8.set e3
          have hT9 := Blk.far hT8 (p := ⟨g, 1, none⟩) (by show w.heap.size ≠ g; omega) (.int .i64 e3)
          have hO9 := hQ8.set 1 (.int .i64 e3)
          clear hR8 hT8 hQ8 c0 c1 f1
          generalize w8.setCell ⟨g, 1, none⟩ (.int .i64 e3) = W9 at *
          have c0 := hR9.c0
          have r0 := hT9.cell 0
          have f0 := hT9.frozen 0
          have r1 := hT9.cell 1
          have f1 := hT9.frozen 1
          have r2 := hT9.cell 2
          have f2 := hT9.frozen 2
          have r3 := hT9.cell 3
          have f3 := hT9.frozen 3
          go_wp2_with fail
          have hF := (((hT9.set_ 0 (.int .u8 48)).set_ 1 (.string (s.extract k e3))).set_ 2 (.int .i64 k)).set_ 3 (.int .i64 e3)
          have s0 : (World.setCell _ _ _).cell? _ = some (.int .u8 48) := hF.cell 0
          have s1 : (World.setCell _ _ _).cell? _ = some (.string (s.extract k e3)) := hF.cell 1
          have s2 : (World.setCell _ _ _).cell? _ = some (.int .i64 k) := hF.cell 2
          have s3 : (World.setCell _ _ _).cell? _ = some (.int .i64 e3) := hF.cell 3
          exact bodyPost_ret (v := .tuple #[.agg #[.int .u8 48, .string (s.extract k e3), .int .i64 k, .int .i64 e3], .bool true]) (by simp [results, Try.f41, go_sem, s0, s1, s2, s3]) rfl ⟨by unfold numTok; rw [HN.out]; exact ⟨by rw [cut_str]; rfl, (((hR9.far (p := ⟨w.heap.size, 0, none⟩) (Nat.ne_of_lt hgl) _).far (p := ⟨w.heap.size, 1, none⟩) (Nat.ne_of_lt hgl) _).far (p := ⟨w.heap.size, 2, none⟩) (Nat.ne_of_lt hgl) _).far (p := ⟨w.heap.size, 3, none⟩) (Nat.ne_of_lt hgl) _⟩, (((hO9.far (p := ⟨w.heap.size, 0, none⟩) (Nat.le_refl _) _).far (p := ⟨w.heap.size, 1, none⟩) (Nat.le_refl _) _).far (p := ⟨w.heap.size, 2, none⟩) (Nat.le_refl _) _).far (p := ⟨w.heap.size, 3, none⟩) (Nat.le_refl _) _⟩
        · refine (HS2.out e1 101 69 (by decide) (by decide) _ hRs (by omega)).mono ?_
          rintro e w6 ⟨rfl, hR6, hO6⟩
          have hT6 := hTs.only hO6 (by omega)
          have hQ6 := hOs.trans hO6
          clear hRs hTs hOs hO6
          rw [if_pos hb] at hR6
          rw [decide_eq_true hb]
          have hlt := hHx hb
          have hfb2 := hfb (by have := HL.out; omega)
          clear hb HX hHx hfb
          go_wp2_with fail
          refine (HS2.out (e1 + 1) 43 45 (by decide) (by decide) _ hR6 (by omega)).mono ?_
          rintro e w7 ⟨rfl, hR7, hO7⟩
          have hT7 := hT6.only hO7 (by omega)
          have hQ7 := hQ6.trans hO7
          clear hR6 hT6 hQ6 hO7
          have hR7' : Rdr w7 g s (expStart s.data.toList (e1 + 1)) := hR7
          rw [hf] at hR7'
          clear hR7 hf
          generalize (decide (bt s.data.toList (e1 + 1) = (43 : UInt8).toNat ∨ bt s.data.toList (e1 + 1) = (45 : UInt8).toNat)) = b7
          have hfl : f ≤ s.size := by have := HL.out; omega
          go_wp2_with fail
          refine (HD.out f _ hR7' (by omega)).mono ?_
          rintro e w8 ⟨rfl, hR8, hO8⟩
          have hT8 := hT7.only hO8 (by omega)
          have hQ8 := hQ7.trans hO8
          clear hR7' hT7 hQ7 hO8
          have hq : ¬ ((0 : Int) < (digE s.data.toList f : Int) - (f : Int)) := by omega
          subst he
          have hfb3 := digE_le s.data.toList f (by have := HL.out; omega)
          generalize digE s.data.toList f = d at *
          clear hd hfb2 hfb3
          have c0 := hR8.c0
          have c1 := hR8.c1
          have f1 := hR8.f1
          clear HS1 HS2 HD
          go_upto_region 14 with fail
          have hR9 := hR8.set e1
          have hT9 := Blk.far hT8 (p := ⟨g, 1, none⟩) (by show w.heap.size ≠ g; omega) (.int .i64 e1)
          have hO9 := hQ8.set 1 (.int .i64 e1)
          clear hR8 hT8 hQ8 c0 c1 f1
          generalize w8.setCell ⟨g, 1, none⟩ (.int .i64 e1) = W9 at *
          have c0 := hR9.c0
          have r0 := hT9.cell 0
          have f0 := hT9.frozen 0
          have r1 := hT9.cell 1
          have f1 := hT9.frozen 1
          have r2 := hT9.cell 2
          have f2 := hT9.frozen 2
          have r3 := hT9.cell 3
          have f3 := hT9.frozen 3
          go_wp2_with fail
          have hF := (((hT9.set_ 0 (.int .u8 48)).set_ 1 (.string (s.extract k e1))).set_ 2 (.int .i64 k)).set_ 3 (.int .i64 e1)
          have s0 : (World.setCell _ _ _).cell? _ = some (.int .u8 48) := hF.cell 0
          have s1 : (World.setCell _ _ _).cell? _ = some (.string (s.extract k e1)) := hF.cell 1
          have s2 : (World.setCell _ _ _).cell? _ = some (.int .i64 k) := hF.cell 2
          have s3 : (World.setCell _ _ _).cell? _ = some (.int .i64 e1) := hF.cell 3
          exact bodyPost_ret (v := .tuple #[.agg #[.int .u8 48, .string (s.extract k e1), .int .i64 k, .int .i64 e1], .bool true]) (by simp [results, Try.f41, go_sem, s0, s1, s2, s3]) rfl ⟨by unfold numTok; rw [HN.out]; exact ⟨by rw [cut_str]; rfl, (((hR9.far (p := ⟨w.heap.size, 0, none⟩) (Nat.ne_of_lt hgl) _).far (p := ⟨w.heap.size, 1, none⟩) (Nat.ne_of_lt hgl) _).far (p := ⟨w.heap.size, 2, none⟩) (Nat.ne_of_lt hgl) _).far (p := ⟨w.heap.size, 3, none⟩) (Nat.ne_of_lt hgl) _⟩, (((hO9.far (p := ⟨w.heap.size, 0, none⟩) (Nat.le_refl _) _).far (p := ⟨w.heap.size, 1, none⟩) (Nat.le_refl _) _).far (p := ⟨w.heap.size, 2, none⟩) (Nat.le_refl _) _).far (p := ⟨w.heap.size, 3, none⟩) (Nat.le_refl _) _⟩
end Go.Proofs.Ytjnmcadfaombjaa
