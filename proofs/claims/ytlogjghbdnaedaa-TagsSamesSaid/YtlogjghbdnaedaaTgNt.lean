/- Walks: the document's Nested (chapter 11). -/
import Derived.Test.YtlogjghbdnaedaaTgSr
import Derived.Test.YtlogjghbdnaedaaTgZ
namespace Go.Proofs.Ytlogjghbdnaedaa
open Go.RowKit
set_option linter.unusedVariables false
set_option linter.unusedSimpArgs false
/-- An append of a known row to an empty one, at a step of a region that draws. -/
theorem step_app_first {P : Program} {ops : Array Oper} {o : Oper} {a : Act} {K : Act → World → Prop} {Q : Exit → Act → World → Prop} {E : Prop} {w : World} (hgd : o.guard = none) (s x : Operand) (t : TypeId)
    (ho : o.op = .call { callee := .builtin .append, args := #[s, x], argTypes := #[t, t] })
    (w0 wr : World) (e : TypeId) (i : TypeInfo) (z : Value) (size bytes : Nat) (ht : P.underlying t = some (.slice e)) (hi : P.info? e = some i) (hz : i.zero = some z)
    (hsize : i.size = size) (hby : i.bytes = bytes) (hzs : z.cells.size = size) (hsz : 0 < size)
    (B : Nat) (hs : a.eval s = .slice (some ⟨B, 0, none⟩) 0 0) (hB : Blk w B e #[]) (hbB : wr.heap.size ≤ B) (hr : Below wr.heap.size wr w) (h0 : Below w0.heap.size w0 wr)
    (g c m : Nat) (news : List Value) (hx : a.eval x = .slice (some ⟨g, 0, none⟩) m c) (hl : news.length = m * size) (hgl : g < wr.heap.size) (hnews : ∀ j u, news[j]? = some u → wr.cell? ⟨g, j, none⟩ = some u) (h1 : ∀ u ∈ news, u.oneCell' = true)
    (h63 : m ≤ maxLen) (hbytes : m * bytes ≤ 140737488355328)
    (h : ∀ v w', w'.ownsRow w0.heap.size e size v m news → w.grownBy w' (some B) → Below w0.heap.size w0 w' → K (a.put o.dst v) w') :
    if Region.wanted o (yielded ops a.tmps) = true then Oper.wp P o a w K Q else E := by
  have hw : Region.wanted o (yielded ops a.tmps) = true := by simp [Region.wanted, hgd]
  rw [if_pos hw]
  have hs0 := h0.size
  have hs1 := hr.size
  have hown : w.ownsRow w0.heap.size e size (.slice (some ⟨B, 0, none⟩) 0 0) 0 [] := ⟨by simp, .inr ⟨B, 0, #[], rfl, by omega, hB, by simp⟩⟩
  obtain ⟨v', w', hrun, h2, h3, _, h5⟩ := run_append_own_at (P := P) w w0.heap.size t o.type e i z size bytes ht hi hz hsize hby hzs hsz _ 0 [] hown ⟨g, 0, none⟩ m c news hl
    (fun j u hu => by rw [Addr.add_lit, Nat.zero_add]; exact (hr.cell (p := ⟨g, j, none⟩) hgl).trans (hnews j u hu)) h1 (by omega) (by rw [Nat.zero_add]; exact hbytes) (by omega)
  rw [Nat.zero_add, List.nil_append] at h2
  unfold Oper.wp execOp
  simp only [ho, resolve, invoke, builtin, Sem.run_bind, Sem.run_pure, Result.andThen_ok, List.map_toArray, List.map_cons, List.map_nil, hs, hx, hrun]
  refine h v' w' h2 h3 ((h0.trans (hr.mono hs0)).grown h3 (by omega) fun j ej => ?_)
  have : B = j := by simpa [Value.ownBlock] using ej
  omega
set_option maxRecDepth 100000 in
set_option maxHeartbeats 16000000 in
theorem rnested (ts : List Tg) (ok : Nat → Prop) (pl : Bool) (v0 : Value) (w : World) (ht : TgsV w ok pl ts v0) (hl : ts.length ≤ 1000000) :
    Calls Try.prog 17 #[v0] w fun e w' => e = .returned (.bool (nestB ts)) ∧ Below w.heap.size w w' := by
  obtain ⟨a0, p0, rfl⟩ := tgsV_len ht
  have HT := Lib.hid ht
  clear ht
  obtain ⟨R, hR⟩ : ∃ R, nestB ts = R := ⟨_, rfl⟩
  rw [hR]
  have HR := Lib.hid hR
  clear hR
  go_enter Try.func17, Try.ntmps17
  go_wp2_with fail
  go_loopw [3, 4] (fun v z wr => ∃ (k : Nat) (op : List (List UInt8)) (gv cv : Nat), z = .int .i64 k ∧ v = .slice (some ⟨gv, 0, none⟩) op.length cv ∧ k ≤ ts.length ∧ op.length ≤ 32 ∧ wr.ownsRow w.heap.size 9 1 (.slice (some ⟨gv, 0, none⟩) op.length cv) op.length (strG op) ∧ R = nestF op (ts.drop k) ∧ Below w.heap.size w wr) (fun _ z _ => ts.length - (intOf z).toNat)
  case atStart => exact ⟨0, [], _, _, rfl, rfl, Nat.zero_le _, by simp, ⟨by simp [strG], .inr ⟨w.heap.size, 0, #[], rfl, Nat.le_refl _, World.alloc_heap_new _ _, by simp [strG]⟩⟩, by rw [← HR.out]; rfl, (Below.refl _ w).alloc (Nat.le_refl _) _⟩
  case round =>
    obtain ⟨k, op, gv, c6, rfl, rfl, hk, ho32, how, hr, hb⟩ := hrel
    have HV0 := Lib.hid hr
    have HB := Lib.hid hb
    by_cases hlt : k < ts.length
    · obtain ⟨t, htk⟩ : ∃ t, ts[k]? = some t := ⟨_, List.getElem?_eq_getElem hlt⟩
      obtain ⟨g, o, cap, d, e, f, hv, hgl, p0', p1, p2, p3, p4, p5, hpl, cs, hrow, hac⟩ := tg_at HT.out htk hb
      simp only [Value.slice.injEq] at hv
      obtain ⟨rfl, _, rfl⟩ := hv
      have HST : Hid (R = nestF op (t :: ts.drop (k + 1))) := by show _ = _; rw [HV0.out, take_step htk]
      have HVD := Lib.hid (fun w => rvoid (strOf t.name) w)
      rw [strOf_list] at HVD
      obtain ⟨n, hn⟩ : ∃ n, strOf t.name = n := ⟨_, rfl⟩
      have HN := Lib.hid hn
      rw [hn] at p1 HVD
      have HOW := Lib.hid how
      have HKB : Hid (∀ w', Below w.heap.size w w' → w'.cell? ⟨g, o + k * 6 + 1, none⟩ = some (.string n) ∧ Below w.heap.size w w') := fun w' h => ⟨(h.cell (p := ⟨g, o + k * 6 + 1, none⟩) hgl).trans ((hb.cell (p := ⟨g, o + k * 6 + 1, none⟩) hgl).symm.trans p1), h⟩
      have HKC : Hid (∀ w', Below w.heap.size w w' → w'.cell? ⟨g, o + k * 6, none⟩ = some (.int .u8 t.kind)) := fun w' h => (h.cell (p := ⟨g, o + k * 6, none⟩) hgl).trans ((hb.cell (p := ⟨g, o + k * 6, none⟩) hgl).symm.trans p0')
      obtain ⟨q, hq⟩ : ∃ q, t.kind = q := ⟨_, rfl⟩
      have HQ := Lib.hid hq
      rw [hq] at p0' HKC
      clear hq how hr hb htk hrow hac hn HV0 p2 p3 p4 p5 hpl
      by_cases h111 : q = 111
      · have z1 : ((q : Int) == 111) = true := by simp; omega
        have z2 : ((q : Int) == 99) = false := by simp; omega
        cases hvd : isVoid t.name with
        | true =>
          have HS : Hid (R = nestF op (ts.drop (k + 1))) := by show _ = _; rw [HST.out, nestF_pass (fun h => by rw [hvd] at h; cases h.2) (by rw [HQ.out]; omega)]
          have h33 : ¬ (32 : Int) < (op.length : Int) := by omega
          rw [hvd] at HVD
          clear hvd HST
          go_wp2_with fail
          refine (HVD.out _).mono ?_
          rintro y w5 ⟨rfl, rfl⟩
          go_wp2_with fail
          go_roundw
          case rel => exact ⟨k + 1, op, _, _, by go_num, rfl, hlt, ho32, HOW.out, HS.out, HB.out⟩
          case measure => simp [intOf]; omega
        | false =>
          have HS : Hid (R = if 32 ≤ op.length then false else nestF (op ++ [t.name]) (ts.drop (k + 1))) := by show _ = _; rw [HST.out, nestF_open ⟨by rw [HQ.out]; omega, hvd⟩]
          rw [hvd] at HVD
          clear hvd HST
          obtain ⟨i0, hi, hz0, hz1, hz2⟩ := info_parts infoST
          have e3 : op.length + 1 ≤ maxLen := by unfold maxLen; omega
          have e3b : op.length ≤ maxLen := by unfold maxLen; omega
          have e4 : (op.length + 1) * 16 ≤ 140737488355328 := by omega
          have e4b : op.length * 16 ≤ 140737488355328 := by omega
          have hsl : (strG op).length = op.length * 1 := by rw [strG_len, Nat.mul_one]
          have hgv : gv < wr.heap.size := (HOW.out.lt gv rfl).2
          have hgv2 : w.heap.size ≤ gv := (HOW.out.lt gv rfl).1
          have HNW : Hid (∀ j u, (strG op)[j]? = some u → wr.cell? ⟨gv, j, none⟩ = some u) := fun j u hu => by
            have := HOW.out.cells (g := gv) rfl j u hu
            rwa [Addr.add_lit, Nat.zero_add] at this
          have H1C : Hid (∀ u ∈ strG op, u.oneCell' = true) := fun u hu => by
            unfold strG at hu
            obtain ⟨x, _, rfl⟩ := List.mem_map.1 hu
            rfl
          go_wp2_with fail
          refine (HVD.out _).mono ?_
          rintro y w5 ⟨rfl, rfl⟩
          go_upto_region 7 with fail
          go_cut [3] (fun v wx => ∃ (g3 cap3 : Nat), v = .slice (some ⟨g3, 0, none⟩) (op.length + 1) cap3 ∧ wx.ownsRow w.heap.size 9 1 (.slice (some ⟨g3, 0, none⟩) (op.length + 1) cap3) (op.length + 1) (strG op ++ [.string n]) ∧ Below w.heap.size w wx)
          case first =>
            go_region_held3 (fun w' => w'.cell? ⟨g, o + k * 6 + 1, none⟩ = some (.string n) ∧ Below w.heap.size w w') (first | exact HKB.out _ hB5 | exact HKB.out _ hB3 | exact HKB.out _ (hB3.alloc hB3.size _) | exact HKB.out _ HB.out.drew | exact HKB.out _ (below_drewT (HB.out.alloc HB.out.size _)) | exact HKB.out _ ((below_drewT HB.out).alloc HB.out.size _) | exact HKB.out _ (below_drewT ((HB.out.alloc HB.out.size _).alloc (by have := HB.out.size; simp; omega) _)) | exact HKB.out _ (((below_drewT HB.out).alloc HB.out.size _).alloc (by have := HB.out.size; simp; omega) _)) (first | (refine step_app_first rfl (.tmp 30) (.tmp 31) 59 rfl w wr 9 i0 (.string ⟨#[]⟩) 1 16 Try.underlying59 hi hz0 hz1 hz2 rfl (by decide) wr.heap.size rfl (by first | exact Blk.new _ _ _ | exact (Blk.new _ _ _).alloc _) (by omega) (by first | exact below_drewT ((Below.refl _ _).alloc (Nat.le_refl _) _) | exact (below_drewT (Below.refl _ _)).alloc (Nat.le_refl _) _ | exact ((below_drewT (Below.refl _ _)).alloc (Nat.le_refl _) _).alloc (by simp) _ | exact below_drewT (((Below.refl _ _).alloc (Nat.le_refl _) _).alloc (by simp) _)) HB.out gv c6 op.length (strG op) rfl hsl hgv HNW.out H1C.out e3b e4b ?_; intro v3 w3 hown3 hgrow3 hB3) | (refine step_app_first rfl (.tmp 30) (.tmp 31) 59 rfl w wr 9 i0 (.string ⟨#[]⟩) 1 16 Try.underlying59 hi hz0 hz1 hz2 rfl (by decide) (wr.heap.size + 1) rfl (blk_new2 _ _ _ _) (by omega) (by first | exact below_drewT ((Below.refl _ _).alloc (Nat.le_refl _) _) | exact (below_drewT (Below.refl _ _)).alloc (Nat.le_refl _) _ | exact ((below_drewT (Below.refl _ _)).alloc (Nat.le_refl _) _).alloc (by simp) _ | exact below_drewT (((Below.refl _ _).alloc (Nat.le_refl _) _).alloc (by simp) _)) HB.out gv c6 op.length (strG op) rfl hsl hgv HNW.out H1C.out e3b e4b ?_; intro v3 w3 hown3 hgrow3 hB3) | (refine step_append_lies _ rfl (.tmp 32) (.tmp 38) 59 rfl w.heap.size 9 i0 (.string ⟨#[]⟩) 1 16 Try.underlying59 hi hz0 hz1 hz2 rfl (by decide) v3 op.length (strG op) rfl (hown3.alloc _) ⟨w3.heap.size, 0, none⟩ 1 1 [.string n] rfl rfl (cells_newT w3 #[.string n] _) (by simp [Value.oneCell']) (by omega) e3 e4 (hB3.alloc hB3.size (.cells #[.string n] 9)).size _ rfl ?_; intro g5 cap5 w5 hown5 hgrow5 hat5 hlt5; have hB5 : Below w.heap.size w w5 := (hB3.alloc hB3.size (.cells #[.string n] 9)).grown hgrow5 (hB3.alloc hB3.size (.cells #[.string n] 9)).size (fun j ej => (hown3.lt j ej).1)) | (refine step_append_lies _ rfl (.tmp 32) (.tmp 38) 59 rfl w.heap.size 9 i0 (.string ⟨#[]⟩) 1 16 Try.underlying59 hi hz0 hz1 hz2 rfl (by decide) v3 op.length (strG op) rfl (hown3) ⟨wr.heap.size + 1, 0, none⟩ 1 1 [.string n] rfl rfl (World.news_of_block (cs := #[.string n]) ((hgrow3.block (wr.heap.size + 1) (by simp) (by simp)).trans (blk_new2 _ _ _ _))) (by simp [Value.oneCell']) (by omega) e3 e4 (hB3).size _ rfl ?_; intro g5 cap5 w5 hown5 hgrow5 hat5 hlt5; have hB5 : Below w.heap.size w w5 := (hB3).grown hgrow5 (hB3).size (fun j ej => (hown3.lt j ej).1)) | (refine step_append_lies _ rfl (.tmp 32) (.tmp 38) 59 rfl w.heap.size 9 i0 (.string ⟨#[]⟩) 1 16 Try.underlying59 hi hz0 hz1 hz2 rfl (by decide) v3 op.length (strG op) rfl (hown3) ⟨wr.heap.size, 0, none⟩ 1 1 [.string n] rfl rfl (World.news_of_block (cs := #[.string n]) ((hgrow3.block wr.heap.size (by simp; omega) (by simp)).trans ((Blk.new _ _ _).alloc _))) (by simp [Value.oneCell']) (by omega) e3 e4 (hB3).size _ rfl ?_; intro g5 cap5 w5 hown5 hgrow5 hat5 hlt5; have hB5 : Below w.heap.size w w5 := (hB3).grown hgrow5 (hB3).size (fun j ej => (hown3.lt j ej).1)))
            all_goals ((try go_wp2_with fail); go_meet; exact ⟨_, _, rfl, hown5, hB5⟩)
          case rest =>
          obtain ⟨g3, cap3, rfl, hown3, hb3⟩ := hcut
          have hown4 : wc.ownsRow w.heap.size 9 1 (.slice (some ⟨g3, 0, none⟩) (op ++ [t.name]).length cap3) (op ++ [t.name]).length (strG (op ++ [t.name])) := by
            rw [strG_app, List.length_append, HN.out]; exact hown3
          have HOW4 := Lib.hid hown4
          have HB4 := Lib.hid hb3
          have q0 := HKC.out wc hb3
          have HLA : Hid ((op ++ [t.name]).length = op.length + 1) := by show _ = _; simp
          clear hown3 hown4 hb3 HOW HB p0' p1
          by_cases h32 : 32 ≤ op.length
          · have HV : Hid (R = false) := by show _ = _; rw [HS.out, if_pos h32]
            have h33 : (32 : Int) < (op.length : Int) + 1 := by omega
            go_wp2_with fail
            go_ret
            exact ⟨by rw [HV.out]; rfl, HB4.out⟩
          · have HV : Hid (R = nestF (op ++ [t.name]) (ts.drop (k + 1))) := by show _ = _; rw [HS.out, if_neg h32]
            have h33 : ¬ (32 : Int) < (op.length : Int) + 1 := by omega
            go_wp2_with fail
            go_roundw
            case rel => exact ⟨k + 1, op ++ [t.name], _, _, by go_num, by rw [HLA.out], hlt, by rw [HLA.out]; omega, HOW4.out, HV.out, HB4.out⟩
            case measure => simp [intOf]; omega
      · have z1 : ((q : Int) == 111) = false := by simp; omega
        by_cases h99 : q = 99
        · have z2 : ((q : Int) == 99) = true := by simp; omega
          have HS : Hid (R = if op ≠ [] ∧ op.getD (op.length - 1) [] = t.name then nestF (op.take (op.length - 1)) (ts.drop (k + 1)) else false) := by show _ = _; rw [HST.out, nestF_close (by rw [HQ.out]; omega)]
          rcases top_or op with rfl | ⟨r, x, rfl⟩
          · have HV : Hid (R = false) := by show _ = _; rw [HS.out, if_neg (fun h => h.1 rfl)]
            clear HST HS h111 h99
            go_wp2_with fail
            refine wp_region_held_drew (S := (fun _ => True)) (by kernel_rfl) (by trivial) (fun hHeld => ?_)
            refine wpAnyH_take (i := 0) (v := ?_) rfl (by kernel_rfl) (by kernel_rfl) (by kernel_rfl) (fun _ _ _ h => h) (Or.inl ⟨by rfl, ?_⟩) (by assumption) ?_
            rotate_left
            · intro w hSw
              go_simp
              try rfl
            simp only [Act.put, List.setIfInBounds_toArray, List.set_cons_zero, List.set_cons_succ, List.getElem_toArray, List.getElem_cons_succ, List.getElem_cons_zero]
            refine wpAnyH_take (i := 1) (v := ?_) rfl (by kernel_rfl) (by kernel_rfl) (by kernel_rfl) (fun _ _ _ h => h) (Or.inl ⟨by rfl, ?_⟩) (by assumption) ?_
            rotate_left
            · intro w hSw
              go_simp
              try rfl
            simp only [Act.put, List.setIfInBounds_toArray, List.set_cons_zero, List.set_cons_succ, List.getElem_toArray, List.getElem_cons_succ, List.getElem_cons_zero]
            refine wpAnyH_take (i := 2) (v := ?_) rfl (by kernel_rfl) (by kernel_rfl) (by kernel_rfl) (fun _ _ _ h => h) (Or.inl ⟨by rfl, ?_⟩) (by assumption) ?_
            rotate_left
            · intro w hSw
              go_simp
              try rfl
            simp only [Act.put, List.setIfInBounds_toArray, List.set_cons_zero, List.set_cons_succ, List.getElem_toArray, List.getElem_cons_succ, List.getElem_cons_zero]
            refine wpAnyH_take (i := 3) (v := undef) rfl (by kernel_rfl) (by kernel_rfl) (by kernel_rfl) (fun _ _ _ h => h) (Or.inr ⟨by rfl, rfl⟩) (by assumption) ?_
            simp only [Act.put, List.setIfInBounds_toArray, List.set_cons_zero, List.set_cons_succ, List.getElem_toArray, List.getElem_cons_succ, List.getElem_cons_zero]
            refine wpAnyH_take (i := 4) (v := undef) rfl (by kernel_rfl) (by kernel_rfl) (by kernel_rfl) (fun _ _ _ h => h) (Or.inr ⟨by rfl, rfl⟩) (by assumption) ?_
            simp only [Act.put, List.setIfInBounds_toArray, List.set_cons_zero, List.set_cons_succ, List.getElem_toArray, List.getElem_cons_succ, List.getElem_cons_zero]
            refine wpAnyH_take (i := 5) (v := undef) rfl (by kernel_rfl) (by kernel_rfl) (by kernel_rfl) (fun _ _ _ h => h) (Or.inr ⟨by rfl, rfl⟩) (by assumption) ?_
            simp only [Act.put, List.setIfInBounds_toArray, List.set_cons_zero, List.set_cons_succ, List.getElem_toArray, List.getElem_cons_succ, List.getElem_cons_zero]
            refine wpAnyH_take (i := 6) (v := undef) rfl (by kernel_rfl) (by kernel_rfl) (by kernel_rfl) (fun _ _ _ h => h) (Or.inr ⟨by rfl, rfl⟩) (by assumption) ?_
            simp only [Act.put, List.setIfInBounds_toArray, List.set_cons_zero, List.set_cons_succ, List.getElem_toArray, List.getElem_cons_succ, List.getElem_cons_zero]
            refine wpAnyH_take (i := 7) (v := undef) rfl (by kernel_rfl) (by kernel_rfl) (by kernel_rfl) (fun _ _ _ h => h) (Or.inr ⟨by rfl, rfl⟩) (by assumption) ?_
            simp only [Act.put, List.setIfInBounds_toArray, List.set_cons_zero, List.set_cons_succ, List.getElem_toArray, List.getElem_cons_succ, List.getElem_cons_zero]
            refine wpAnyH_take (i := 8) (v := undef) rfl (by kernel_rfl) (by kernel_rfl) (by kernel_rfl) (fun _ _ _ h => h) (Or.inr ⟨by rfl, rfl⟩) (by assumption) ?_
            simp only [Act.put, List.setIfInBounds_toArray, List.set_cons_zero, List.set_cons_succ, List.getElem_toArray, List.getElem_cons_succ, List.getElem_cons_zero]
            refine wpAnyH_take (i := 9) (v := undef) rfl (by kernel_rfl) (by kernel_rfl) (by kernel_rfl) (fun _ _ _ h => h) (Or.inr ⟨by rfl, rfl⟩) (by assumption) ?_
            simp only [Act.put, List.setIfInBounds_toArray, List.set_cons_zero, List.set_cons_succ, List.getElem_toArray, List.getElem_cons_succ, List.getElem_cons_zero]
            refine wpAnyH_take (i := 10) (v := undef) rfl (by kernel_rfl) (by kernel_rfl) (by kernel_rfl) (fun _ _ _ h => h) (Or.inr ⟨by rfl, rfl⟩) (by assumption) ?_
            simp only [Act.put, List.setIfInBounds_toArray, List.set_cons_zero, List.set_cons_succ, List.getElem_toArray, List.getElem_cons_succ, List.getElem_cons_zero]
            refine wpAnyH_take (i := 11) (v := undef) rfl (by kernel_rfl) (by kernel_rfl) (by kernel_rfl) (fun _ _ _ h => h) (Or.inr ⟨by rfl, rfl⟩) (by assumption) ?_
            simp only [Act.put, List.setIfInBounds_toArray, List.set_cons_zero, List.set_cons_succ, List.getElem_toArray, List.getElem_cons_succ, List.getElem_cons_zero]
            refine wpAnyH_take (i := 12) (v := undef) rfl (by kernel_rfl) (by kernel_rfl) (by kernel_rfl) (fun _ _ _ h => h) (Or.inr ⟨by rfl, rfl⟩) (by assumption) ?_
            simp only [Act.put, List.setIfInBounds_toArray, List.set_cons_zero, List.set_cons_succ, List.getElem_toArray, List.getElem_cons_succ, List.getElem_cons_zero]
            refine wpAnyH_take (i := 13) (v := undef) rfl (by kernel_rfl) (by kernel_rfl) (by kernel_rfl) (fun _ _ _ h => h) (Or.inr ⟨by rfl, rfl⟩) (by assumption) ?_
            simp only [Act.put, List.setIfInBounds_toArray, List.set_cons_zero, List.set_cons_succ, List.getElem_toArray, List.getElem_cons_succ, List.getElem_cons_zero]
            refine wpAnyH_take (i := 14) (v := ?_) rfl (by kernel_rfl) (by kernel_rfl) (by kernel_rfl) (fun _ _ _ h => h) (Or.inl ⟨by rfl, ?_⟩) (by assumption) ?_
            rotate_left
            · intro w hSw
              go_simp
              try rfl
            simp only [Act.put, List.setIfInBounds_toArray, List.set_cons_zero, List.set_cons_succ, List.getElem_toArray, List.getElem_cons_succ, List.getElem_cons_zero]
            refine wpAnyH_done (by kernel_rfl) ?_ _
            clear hHeld
            go_wp2_with fail
            go_ret
            exact ⟨by rw [HV.out]; rfl, HB.out.drew⟩
          · have hlen : (r ++ [x]).length = r.length + 1 := by simp
            obtain ⟨g1, cap1, hv1, hg1, c1, hc1, hown1⟩ := row_topT HOW.out
            simp only [Value.slice.injEq, Option.some.injEq, Addr.mk.injEq] at hv1
            obtain ⟨⟨rfl, _, _⟩, _, rfl⟩ := hv1
            have HOWN := Lib.hid hown1
            have hrl : r.length ≤ 32 := by omega
            have HS2 : Hid (R = if x = t.name then nestF r (ts.drop (k + 1)) else false) := by
              show _ = _
              rw [HS.out, hlen, Nat.add_sub_cancel, List.take_left]
              have e : (r ++ [x]).getD r.length [] = x := by simp [List.getD_eq_getElem?_getD]
              rw [e]
              by_cases h : x = t.name
              · rw [if_pos ⟨by simp, h⟩, if_pos h]
              · rw [if_neg (fun h2 => h h2.2), if_neg h]
            have hse := str_eqT x t.name
            rw [HN.out] at hse
            have K1 : wr.drew.cell? ⟨gv, r.length, none⟩ = some (.string (strOf x)) ∧ wr.drew.cell? ⟨g, o + k * 6 + 1, none⟩ = some (.string n) := ⟨c1, p1⟩
            obtain ⟨b, hb2⟩ : ∃ b, decide (x = t.name) = b := ⟨_, rfl⟩
            rw [hb2] at hse
            have HBX := Lib.hid hb2
            have hs1 : (r.length : Int) + 1 - 1 = r.length := by omega
            have hs2 : IntKind.i64.wrap (r.length : Int) = r.length := IntWalk.i64_in _ (by omega)
            have hs3 : (0 : Int) ≤ (r.length : Int) := by omega
            have hs4 : (r.length : Int) < (r.length : Int) + 1 := by omega
            have hs5 : IntKind.i64.wrap ((r.length : Int) + 1 - 1) = r.length := by rw [hs1]; exact hs2
            have hs6 : ¬ (r.length : Int) < 0 := by omega
            have hs7 : r.length < r.length + 1 := by omega
            have hs8 : ((r.length : Int) + 1 == 0) = false := by simp; omega
            have hs9 : ¬ (32 : Int) < (r.length : Int) := by omega
            rw [hlen]
            clear HST HS h111 h99 hown1 hb2 hlen HOW c1
            generalize strOf x = xx at *
            cases b
            · have HV : Hid (R = false) := by show _ = _; rw [HS2.out, if_neg (of_decide_eq_false HBX.out)]
              go_wp2_with fail
              go_region_held3 (fun w' => w'.cell? ⟨gv, r.length, none⟩ = some (.string xx) ∧ w'.cell? ⟨g, o + k * 6 + 1, none⟩ = some (.string n)) (exact K1) (fail)
              go_wp2_with fail
              go_ret
              exact ⟨by rw [HV.out]; rfl, HB.out.drew⟩
            · have HV : Hid (R = nestF r (ts.drop (k + 1))) := by show _ = _; rw [HS2.out, if_pos (of_decide_eq_true HBX.out)]
              go_wp2_with fail
              go_region_held3 (fun w' => w'.cell? ⟨gv, r.length, none⟩ = some (.string xx) ∧ w'.cell? ⟨g, o + k * 6 + 1, none⟩ = some (.string n)) (exact K1) (fail)
              go_wp2_with fail
              go_roundw
              case rel => exact ⟨k + 1, r, _, _, by go_num, rfl, hlt, hrl, HOWN.out, HV.out, HB.out.drew⟩
              case measure => simp [intOf]; omega
        · have z2 : ((q : Int) == 99) = false := by simp; omega
          have h33 : ¬ (32 : Int) < (op.length : Int) := by omega
          have HS : Hid (R = nestF op (ts.drop (k + 1))) := by show _ = _; rw [HST.out, nestF_pass (fun h => by rw [HQ.out] at h; exact h111 h.1) (by rw [HQ.out]; exact h99)]
          clear HST h111 h99
          go_wp2_with fail
          go_roundw
          case rel => exact ⟨k + 1, op, _, _, by go_num, rfl, hlt, ho32, HOW.out, HS.out, HB.out⟩
          case measure => simp [intOf]; omega
    · have hke : k = ts.length := by omega
      have HV : Hid (R = decide (op = [])) := by show _ = _; rw [HV0.out, hke, List.drop_length, nestF_nil]
      clear how hr hb
      have hz : ((op.length : Int) == 0) = decide (op = []) := by cases op with
        | nil => rfl
        | cons a t => simp; omega
      generalize decide (op = []) = b at *
      go_wp2_with fail
      go_ret
      exact ⟨by rw [HV.out]; rfl, HB.out⟩
end Go.Proofs.Ytlogjghbdnaedaa
