/- Nodes in memory. -/
import Derived.Test.YtjnmcadfaombjaaJsF3
import Derived.Deep.AppendLies
import Derived.StillTailTactics
import Derived.Deep.DeepCutAuto
namespace Go.Proofs.Ytjnmcadfaombjaa
open Go.RowKit
set_option linter.unusedVariables false
set_option linter.unusedSimpArgs false
/-- A row: nil, or cells from the head of a block that 'ok' allows. -/
def RowW (w : World) (ok : Nat → Prop) (v : Value) (n : Nat) (xs : List Value) : Prop :=
  (v = .slice none 0 0 ∧ n = 0 ∧ xs = []) ∨ ∃ g cap, v = .slice (some ⟨g, 0, none⟩) n cap ∧ ok g ∧ g < w.heap.size ∧ ∀ m u, xs[m]? = some u → w.cell? ⟨g, m, none⟩ = some u
def strC (ks : List (List UInt8)) : List Value := ks.map fun k => .string (strOf k)
mutual
def NodeW (w : World) (ok : Nat → Prop) : Node → Value → Prop
  | .mk k t ks ns, v => ∃ kv nv cs, v = .agg #[.int .u8 k, .string (strOf t), kv, nv] ∧ RowW w ok kv ks.length (strC ks) ∧ RowW w ok nv ns.length cs ∧ KidsW w ok ns cs
def KidsW (w : World) (ok : Nat → Prop) : List Node → List Value → Prop
  | [], cs => cs = []
  | n :: ns, cs => ∃ a b c d rest, cs = a :: b :: c :: d :: rest ∧ NodeW w ok n (.agg #[a, b, c, d]) ∧ KidsW w ok ns rest
end
theorem RowW.mono {w w' : World} {ok ok' : Nat → Prop} (hh : ∀ g, ok g → g < w.heap.size → ok' g ∧ g < w'.heap.size ∧ w'.heap[g]? = w.heap[g]?) {v : Value} {n : Nat} {xs : List Value} (h : RowW w ok v n xs) : RowW w' ok' v n xs := by
  rcases h with h | ⟨g, cap, hv, hg, hl, hc⟩
  · exact .inl h
  · obtain ⟨h1, h2, h3⟩ := hh g hg hl
    exact .inr ⟨g, cap, hv, h1, h2, fun m u hu => (World.cell?_of_block (w := w) (a := ⟨g, m, none⟩) h3).trans (hc m u hu)⟩
mutual
theorem NodeW.mono {w w' : World} {ok ok' : Nat → Prop} (hh : ∀ g, ok g → g < w.heap.size → ok' g ∧ g < w'.heap.size ∧ w'.heap[g]? = w.heap[g]?) : ∀ (n : Node) (v : Value), NodeW w ok n v → NodeW w' ok' n v
  | .mk k t ks ns, v, h => by
    unfold NodeW at h ⊢
    obtain ⟨kv, nv, cs, hv, h1, h2, h3⟩ := h
    exact ⟨kv, nv, cs, hv, h1.mono hh, h2.mono hh, KidsW.mono hh ns cs h3⟩
theorem KidsW.mono {w w' : World} {ok ok' : Nat → Prop} (hh : ∀ g, ok g → g < w.heap.size → ok' g ∧ g < w'.heap.size ∧ w'.heap[g]? = w.heap[g]?) : ∀ (ns : List Node) (cs : List Value), KidsW w ok ns cs → KidsW w' ok' ns cs
  | [], cs, h => by unfold KidsW at h ⊢; exact h
  | n :: ns, cs, h => by
    unfold KidsW at h ⊢
    obtain ⟨a, b, c, d, rest, hc, h1, h2⟩ := h
    exact ⟨a, b, c, d, rest, hc, NodeW.mono hh n _ h1, KidsW.mono hh ns rest h2⟩
end
theorem KidsW.snoc {w : World} {ok : Nat → Prop} {n : Node} {a b c d : Value} (hn : NodeW w ok n (.agg #[a, b, c, d])) : ∀ (ns : List Node) (cs : List Value), KidsW w ok ns cs → KidsW w ok (ns ++ [n]) (cs ++ [a, b, c, d])
  | [], cs, h => by
    unfold KidsW at h
    subst h
    rw [List.nil_append, List.nil_append]
    unfold KidsW
    exact ⟨a, b, c, d, [], rfl, hn, by unfold KidsW; rfl⟩
  | m :: ns, cs, h => by
    unfold KidsW at h
    obtain ⟨a', b', c', d', rest, hc, h1, h2⟩ := h
    subst hc
    rw [List.cons_append]
    unfold KidsW
    exact ⟨a', b', c', d', rest ++ [a, b, c, d], rfl, h1, KidsW.snoc hn ns rest h2⟩
theorem KidsW.length {w : World} {ok : Nat → Prop} : ∀ (ns : List Node) (cs : List Value), KidsW w ok ns cs → cs.length = ns.length * 4
  | [], cs, h => by unfold KidsW at h; subst h; rfl
  | m :: ns, cs, h => by
    unfold KidsW at h
    obtain ⟨a', b', c', d', rest, hc, h1, h2⟩ := h
    subst hc
    have := KidsW.length ns rest h2
    simp only [List.length_cons]; omega
theorem KidsW.at {w : World} {ok : Nat → Prop} : ∀ (ns : List Node) (cs : List Value) (j : Nat) (n : Node), KidsW w ok ns cs → ns[j]? = some n →
    ∃ a b c d, cs[j * 4]? = some a ∧ cs[j * 4 + 1]? = some b ∧ cs[j * 4 + 2]? = some c ∧ cs[j * 4 + 3]? = some d ∧ NodeW w ok n (.agg #[a, b, c, d])
  | [], cs, j, n, _, hn => by simp at hn
  | m :: ns, cs, 0, n, h, hn => by
    unfold KidsW at h
    obtain ⟨a', b', c', d', rest, hc, h1, h2⟩ := h
    subst hc
    simp only [List.getElem?_cons_zero, Option.some.injEq] at hn
    subst hn
    exact ⟨a', b', c', d', rfl, rfl, rfl, rfl, h1⟩
  | m :: ns, cs, j + 1, n, h, hn => by
    unfold KidsW at h
    obtain ⟨a', b', c', d', rest, hc, h1, h2⟩ := h
    subst hc
    obtain ⟨a, b, c, d, k1, k2, k3, k4, k5⟩ := KidsW.at ns rest j n h2 (by simpa using hn)
    refine ⟨a, b, c, d, ?_, ?_, ?_, ?_, k5⟩
    · rw [show (j + 1) * 4 = j * 4 + 4 by omega]; exact k1
    · rw [show (j + 1) * 4 + 1 = (j * 4 + 1) + 4 by omega]; exact k2
    · rw [show (j + 1) * 4 + 2 = (j * 4 + 2) + 4 by omega]; exact k3
    · rw [show (j + 1) * 4 + 3 = (j * 4 + 3) + 4 by omega]; exact k4
theorem RowW.own {w : World} {base : Nat} {e : TypeId} {size n : Nat} {v : Value} {xs : List Value} {ok : Nat → Prop} (h : w.ownsRow base e size v n xs) (hok : ∀ g, v.ownBlock = some g → base ≤ g → ok g) : RowW w ok v n xs := by
  rcases h.2 with ⟨rfl, h0⟩ | ⟨g, cap, cur, rfl, hb, hh, r1, r2, r3, r4⟩
  · exact .inl ⟨rfl, h0, List.length_eq_zero_iff.1 (by rw [h.1, h0, Nat.zero_mul])⟩
  · refine .inr ⟨g, cap, rfl, hok g rfl hb, (Array.getElem?_eq_some_iff.1 hh).1, fun m u hu => ?_⟩
    have h3 : (⟨g, 0, none⟩ : Addr).add m = ⟨g, m, none⟩ := by rw [Addr.add_lit, Nat.zero_add]
    rw [← h3]
    exact h.cells (g := g) rfl m u hu
/-- Rows of two kinds lie in two blocks. -/
theorem rows_apart {w : World} {b1 b2 : Nat} {e1 e2 : TypeId} {s1 s2 n1 n2 : Nat} {v1 v2 : Value} {x1 x2 : List Value} (h1 : w.ownsRow b1 e1 s1 v1 n1 x1) (h2 : w.ownsRow b2 e2 s2 v2 n2 x2) (he : e1 ≠ e2) (g : Nat) (hg : v1.ownBlock = some g) : v2.ownBlock ≠ some g := by
  intro hg2
  rcases h1.2 with ⟨rfl, _⟩ | ⟨k, cap, cur, rfl, hb, hh, _⟩
  · simp [Value.ownBlock] at hg
  · rcases h2.2 with ⟨rfl, _⟩ | ⟨k2, cap2, cur2, rfl, hb2, hh2, _⟩
    · simp [Value.ownBlock] at hg2
    · simp [Value.ownBlock] at hg hg2
      subst hg hg2
      rw [hh] at hh2
      injection hh2 with hh2
      injection hh2 with a b
      exact he b
end Go.Proofs.Ytjnmcadfaombjaa

/- Plain: places behind values; walks: a value that is no row and no map (chapter 10). -/
namespace Go.Proofs.Ytjnmcadfaombjaa
open Go.RowKit
set_option linter.unusedVariables false
set_option linter.unusedSimpArgs false
theorem isK_lt {ts : List Tok} {k c : Nat} (h : isK ts k c = true) : k < ts.length := by
  unfold isK at h
  rcases Nat.lt_or_ge k ts.length with h1 | h1
  · exact h1
  · rw [List.getElem?_eq_none h1] at h; cases h
theorem elems_bd {val : Nat → Option (Node × Nat)} {ts : List Tok} {map : Bool} {endk : Nat} (hv : ∀ k n k2, val k = some (n, k2) → k < k2 ∧ k2 ≤ ts.length) :
    ∀ (g k : Nat) (ks : List (List UInt8)) (ns : List Node) (ks' : List (List UInt8)) (ns' : List Node) (k' : Nat), elems val ts map endk g k ks ns = some (ks', ns', k') → k < k' ∧ k' ≤ ts.length
  | 0, k, ks, ns, ks', ns', k', h => by cases h
  | g + 1, k, ks, ns, ks', ns', k', h => by
    unfold elems at h
    split at h
    · cases h
    · split at h
      · cases h
      · rename_i n k2 hval
        have h1 := hv _ _ _ hval
        split at h
        · rename_i hk
          have := isK_lt hk
          simp only [Option.some.injEq, Prod.mk.injEq] at h
          obtain ⟨_, _, rfl⟩ := h
          cases map <;> simp at h1 <;> omega
        · split at h
          · have h2 := elems_bd hv g _ _ _ _ _ _ h
            cases map <;> simp at h1 <;> omega
          · cases h
theorem valI_at {f : Nat} {ts : List Tok} {k : Nat} {t : Tok} (h : ts[k]? = some t) : valI (f + 1) ts k = if t.kind = 34 ∨ t.kind = 48 ∨ t.kind = 97 then some (.mk t.kind t.text [] [], k + 1)
      else if t.kind ≠ 91 ∧ t.kind ≠ 123 then none
      else if isK ts (k + 1) (if t.kind = 123 then 125 else 93) then some (.mk t.kind t.text [] [], k + 2)
      else match elems (fun j => valI f ts j) ts (decide (t.kind = 123)) (if t.kind = 123 then 125 else 93) ts.length (k + 1) [] [] with
        | none => none
        | some (ks, ns, k2) => some (.mk t.kind t.text ks ns, k2) := by
  rw [valI, h]
  rfl
theorem valI_bd : ∀ (f : Nat) (ts : List Tok) (k : Nat) (n : Node) (k2 : Nat), valI f ts k = some (n, k2) → k < k2 ∧ k2 ≤ ts.length
  | 0, ts, k, n, k2, h => by cases h
  | f + 1, ts, k, n, k2, h => by
    rcases Nat.lt_or_ge k ts.length with hk | hk
    · have ht : ts[k]? = some ts[k] := List.getElem?_eq_getElem hk
      rw [valI_at ht] at h
      generalize ts[k] = t at *
      by_cases q1 : t.kind = 34 ∨ t.kind = 48 ∨ t.kind = 97
      · rw [if_pos q1] at h
        simp only [Option.some.injEq, Prod.mk.injEq] at h; omega
      rw [if_neg q1] at h
      by_cases q2 : t.kind ≠ 91 ∧ t.kind ≠ 123
      · rw [if_pos q2] at h; cases h
      rw [if_neg q2] at h
      by_cases q3 : isK ts (k + 1) (if t.kind = 123 then 125 else 93) = true
      · rw [if_pos q3] at h
        have := isK_lt q3
        simp only [Option.some.injEq, Prod.mk.injEq] at h; omega
      rw [if_neg q3] at h
      cases he : elems (fun j => valI f ts j) ts (decide (t.kind = 123)) (if t.kind = 123 then 125 else 93) ts.length (k + 1) [] [] with
      | none => rw [he] at h; cases h
      | some r =>
        obtain ⟨ks, ns, k3⟩ := r
        rw [he] at h
        have := elems_bd (fun k n k2 h => valI_bd f ts k n k2 h) _ _ _ _ _ _ _ he
        simp only [Option.some.injEq, Prod.mk.injEq] at h; omega
    · rw [valI, List.getElem?_eq_none hk] at h; cases h
def zeroN : Value := .agg #[.int .u8 0, .string ⟨#[]⟩, .slice none 0 0, .slice none 0 0]
def zeroNC : Array Value := #[.int .u8 0, .string ⟨#[]⟩, .slice none 0 0, .slice none 0 0]
def ValR (o : Option (Node × Nat)) (B : Nat) (e : Ending) (W : World) : Prop := match o with
  | some p => ∃ a b c d, e = .returned (.tuple #[.agg #[a, b, c, d], .int .i64 p.2]) ∧ NodeW W (fun g => B ≤ g) p.1 (.agg #[a, b, c, d])
  | none => e = .returned (.tuple #[zeroN, .int .i64 (-1)])
theorem valI_out {f : Nat} {ts : List Tok} {k : Nat} (h : ts.length ≤ k) : valI f ts k = none := by
  cases f with
  | zero => rfl
  | succ f => rw [valI, List.getElem?_eq_none h]
theorem node_leaf (w : World) (ok : Nat → Prop) (q : Nat) (x : List UInt8) : NodeW w ok (.mk q x [] []) (.agg #[.int .u8 q, .string (strOf x), .slice none 0 0, .slice none 0 0]) := by
  unfold NodeW
  exact ⟨_, _, [], rfl, .inl ⟨rfl, rfl, rfl⟩, .inl ⟨rfl, rfl, rfl⟩, by unfold KidsW; rfl⟩
set_option maxRecDepth 100000 in
set_option maxHeartbeats 2000000 in
theorem rvalue_out (f : Nat) (ts : List Tok) (ao : Option Addr) (cap k : Nat) (w : World) (hl : ts.length ≤ 100000) (hk : ts.length ≤ k) (hk2 : k ≤ 200000) :
    Calls Try.prog 29 #[.slice ao ts.length cap, .int .i64 k] w fun e w' => ValR (valI f ts k) w.heap.size e w' ∧ Below w.heap.size w w' := by
  have HV : Hid (valI f ts k = none) := valI_out hk
  go_enter Try.func29, Try.ntmps29
  go_wp2_with fail
  exact bodyPost_ret (v := .tuple #[zeroN, .int .i64 (-1)]) (by simp [results, Try.f29, go_sem, zeroN]) rfl ⟨by rw [HV.out]; rfl, (Below.refl w.heap.size w).alloc (Nat.le_refl _) _⟩
set_option maxRecDepth 100000 in
set_option maxHeartbeats 4000000 in
theorem rvalue_leaf (f : Nat) (ts : List Tok) (ao : Option Addr) (cap k : Nat) (t : Tok) (w : World) (hl : ts.length ≤ 100000) (ht : ts[k]? = some t) (hk2 : k < ts.length) (hT : TokAt w w.heap.size ao ts) (hkk : ¬ (t.kind = 91 ∨ t.kind = 123)) :
    Calls Try.prog 29 #[.slice ao ts.length cap, .int .i64 k] w fun e w' => ValR (valI (f + 1) ts k) w.heap.size e w' ∧ Below w.heap.size w w' := by
  have HV := Lib.hid (valI_at (f := f) ht)
  obtain ⟨g, rfl, hg, c0, c1⟩ := hT.facts ht
  have hne : g ≠ w.heap.size := by omega
  by_cases hq : t.kind = 34 ∨ t.kind = 48 ∨ t.kind = 97
  · have HF : Hid (∀ W, ValR (valI (f + 1) ts k) w.heap.size (.returned (.tuple #[.agg #[.int .u8 t.kind, .string (strOf t.text), .slice none 0 0, .slice none 0 0], .int .i64 ((k + 1 : Nat) : Int)])) W) := fun W => by
      rw [HV.out, if_pos hq]; exact ⟨_, _, _, _, rfl, node_leaf _ _ _ _⟩
    rw [show ((k + 1 : Nat) : Int) = (k : Int) + 1 by omega] at HF
    clear HV hT ht
    have hq2 : (((t.kind : Int) == 34) = true) ∨ (((t.kind : Int) == 34) = false ∧ ((t.kind : Int) == 48) = true) ∨ (((t.kind : Int) == 34) = false ∧ ((t.kind : Int) == 48) = false ∧ ((t.kind : Int) == 97) = true) := by
      rcases hq with h | h | h <;> rw [h] <;> decide
    clear hq hkk
    generalize t.kind = q at *
    generalize strOf t.text = x at *
    rcases hq2 with h1 | ⟨h1, h2⟩ | ⟨h1, h2, h3⟩
    all_goals
      go_enter Try.func29, Try.ntmps29
      go_wp2_with fail
      exact bodyPost_ret (v := .tuple #[.agg #[.int .u8 q, .string x, .slice none 0 0, .slice none 0 0], .int .i64 ((k : Int) + 1)]) (by simp [results, Try.f29, go_sem]) rfl ⟨HF.out _, ((Below.refl w.heap.size w).alloc (Nat.le_refl _) _).alloc (by simp) _⟩
  · have HF : Hid (∀ W, ValR (valI (f + 1) ts k) w.heap.size (.returned (.tuple #[zeroN, .int .i64 (-1)])) W) := fun W => by
      rw [HV.out, if_neg hq, if_pos (by omega)]; rfl
    have h1 : ((t.kind : Int) == 34) = false := by simp only [beq_eq_false_iff_ne]; omega
    have h2 : ((t.kind : Int) == 48) = false := by simp only [beq_eq_false_iff_ne]; omega
    have h3 : ((t.kind : Int) == 97) = false := by simp only [beq_eq_false_iff_ne]; omega
    have h4 : ((t.kind : Int) != 91) = true := by simp only [bne_iff_ne]; omega
    have h5 : ((t.kind : Int) != 123) = true := by simp only [bne_iff_ne]; omega
    clear HV hT ht hq hkk
    generalize t.kind = q at *
    generalize strOf t.text = x at *
    go_enter Try.func29, Try.ntmps29
    go_wp2_with fail
    exact bodyPost_ret (v := .tuple #[zeroN, .int .i64 (-1)]) (by simp [results, Try.f29, go_sem, zeroN]) rfl ⟨HF.out _, ((Below.refl w.heap.size w).alloc (Nat.le_refl _) _).alloc (by simp) _⟩
end Go.Proofs.Ytjnmcadfaombjaa

/- What lies in memory while a row's or a map's members are read (chapter 10). -/
namespace Go.Proofs.Ytjnmcadfaombjaa
open Go.RowKit
set_option linter.unusedVariables false
set_option linter.unusedSimpArgs false
theorem ownsRow_same {w w' : World} {base : Nat} {e : TypeId} {size n : Nat} {v : Value} {xs : List Value} (h : w.ownsRow base e size v n xs) (hb : ∀ b, v.ownBlock = some b → w'.heap[b]? = w.heap[b]?) : w'.ownsRow base e size v n xs := by
  refine ⟨h.1, ?_⟩
  rcases h.2 with h | ⟨g, cap, cur, hv, hg, hh, r⟩
  · exact .inl h
  · exact .inr ⟨g, cap, cur, hv, hg, (hb g (by rw [hv]; rfl)).trans hh, r⟩
theorem strC_snoc (ks : List (List UInt8)) (x : List UInt8) : strC (ks ++ [x]) = strC ks ++ [.string (strOf x)] := by unfold strC; rw [List.map_append]; rfl
structure Mid (q : Nat) (x : ByteArray) (B : Nat) (w : World) (ks : List (List UInt8)) (ns : List Node) (kv nv : Value) (cs : List Value) (wr : World) : Prop where
  hR : Blk wr B 44 zeroNC
  hN : Blk wr (B + 1) 44 #[.int .u8 q, .string x, kv, nv]
  hkv : wr.ownsRow (B + 2) 9 1 kv ks.length (strC ks)
  hnv : wr.ownsRow (B + 2) 44 4 nv ns.length cs
  hkids : KidsW wr (fun g => B + 2 ≤ g ∧ kv.ownBlock ≠ some g ∧ nv.ownBlock ≠ some g) ns cs
  bel : Below B w wr
variable {q : Nat} {x : ByteArray} {B : Nat} {w : World} {ks : List (List UInt8)} {ns : List Node} {kv nv : Value} {cs : List Value} {wr : World}
theorem Mid.below {w2 : World} (h : Mid q x B w ks ns kv nv cs wr) (hb : Below wr.heap.size wr w2) : Mid q x B w ks ns kv nv cs w2 :=
  ⟨h.hR.below hb h.hR.lt, h.hN.below hb h.hN.lt, ownsRow_ofBelow h.hkv hb, ownsRow_ofBelow h.hnv hb,
    KidsW.mono (fun g hg hl => ⟨hg, by have := hb.size; omega, hb.block g hl⟩) ns cs h.hkids, h.bel.trans (hb.mono (Nat.le_of_lt h.hR.lt))⟩
/-- What a key's append leaves. -/
def KeyCut (B : Nat) (q : Int) (x : ByteArray) (kv nv : Value) (ks : List (List UInt8)) (y : List UInt8) (wr wx : World) : Prop :=
  ∃ g2 cap2, Blk wx (B + 1) 44 #[.int .u8 q, .string x, .slice (some ⟨g2, 0, none⟩) (ks.length + 1) cap2, nv] ∧
    wx.ownsRow (B + 2) 9 1 (.slice (some ⟨g2, 0, none⟩) (ks.length + 1) cap2) (ks.length + 1) (strC ks ++ [.string (strOf y)]) ∧
    (kv.ownBlock = some g2 ∨ wr.heap.size ≤ g2) ∧ wr.heap.size ≤ wx.heap.size ∧ wx.os = wr.os ∧ wx.tape = wr.tape ∧ wx.output = wr.output ∧
    ∀ b, b < wr.heap.size → b ≠ B + 1 → kv.ownBlock ≠ some b → wx.heap[b]? = wr.heap[b]?
theorem key_done {B g2 cap2 : Nat} {q : Int} {x : ByteArray} {kv nv : Value} {ks : List (List UInt8)} {y : List UInt8} {wr w3 : World} {o : Obj} (hN3 : Blk w3 (B + 1) 44 #[.int .u8 q, .string x, kv, nv])
    (ho : w3.ownsRow (B + 2) 9 1 (.slice (some ⟨g2, 0, none⟩) (ks.length + 1) cap2) (ks.length + 1) (strC ks ++ [.string (strOf y)]))
    (hg : ((wr.alloc o).drew).grownBy w3 kv.ownBlock) (hf : kv.ownBlock = some g2 ∨ g2 = wr.heap.size + 1) :
    KeyCut B q x kv nv ks y wr (w3.setCell ⟨B + 1, 2, none⟩ (.slice (some ⟨g2, 0, none⟩) (ks.length + 1) cap2)) := by
  have hsz : wr.heap.size + 1 ≤ w3.heap.size := by have := hg.size; simpa using this
  refine ⟨g2, cap2, hN3.set_ 2 _, ownsRow_setCell_below ho (a := ⟨B + 1, 2, none⟩) (by show B + 1 < B + 2; omega) _, ?_, ?_, hg.os, hg.tape, hg.output, fun b hb hne hk => ?_⟩
  · rcases hf with h | h
    · exact .inl h
    · exact .inr (by omega)
  · have : (w3.setCell ⟨B + 1, 2, none⟩ (.slice (some ⟨g2, 0, none⟩) (ks.length + 1) cap2)).heap.size = w3.heap.size := by simp [World.setCell]
    omega
  · rw [Below.heap_setCell w3 ⟨B + 1, 2, none⟩ _ b hne, hg.block b (by simp; omega) (fun h => hk h.symm)]
    exact Below.heap_alloc wr o b hb
theorem Mid.key {y : List UInt8} {wx : World} (h : Mid q x B w ks ns kv nv cs wr) (hc : KeyCut B q x kv nv ks y wr wx) (hne : (9 : TypeId) ≠ 44) : ∃ kv', Mid q x B w (ks ++ [y]) ns kv' nv cs wx := by
  obtain ⟨g2, cap2, hN', hkv', hfr, hsz, hos, htape, hout, hblk⟩ := hc
  have hkl := fun b hb => h.hkv.lt b hb
  have hnl := fun b hb => h.hnv.lt b hb
  refine ⟨_, ?_, hN', ?_, ?_, ?_, ?_⟩
  · exact (hblk B h.hR.lt (by omega) (fun e => by have := (hkl B e).1; omega)).trans h.hR
  · rw [strC_snoc, List.length_append]; exact hkv'
  · exact ownsRow_same h.hnv fun b hb => hblk b (hnl b hb).2 (by have := (hnl b hb).1; omega) (fun e => rows_apart h.hkv h.hnv hne b e hb)
  · refine KidsW.mono (fun g hg hl => ?_) ns cs h.hkids
    refine ⟨⟨hg.1, fun e => ?_, hg.2.2⟩, by omega, hblk g hl (by have := hg.1; omega) hg.2.1⟩
    simp [Value.ownBlock] at e
    subst e
    rcases hfr with hfr | hfr
    · exact hg.2.1 hfr
    · omega
  · exact h.bel.trans ⟨hos, htape, hout, hsz, fun b hb => hblk b (by have := h.bel.size; have := h.hR.lt; omega) (by omega) (fun e => by have := (hkl b e).1; omega)⟩
theorem Mid.kid {n : Node} {a b c d : Value} {wc w2 w3 : World} {g3 cap3 : Nat} {o1 o2 : Obj} (hc : Mid q x B w ks ns kv nv cs wc) (h : Mid q x B w ks ns kv nv cs w2) (hsz : wc.heap.size ≤ w2.heap.size)
    (hn : NodeW w2 (fun g => wc.heap.size ≤ g) n (.agg #[a, b, c, d])) (hN3 : Blk w3 (B + 1) 44 #[.int .u8 q, .string x, kv, nv])
    (ho : w3.ownsRow (B + 2) 44 4 (.slice (some ⟨g3, 0, none⟩) (ns.length + 1) cap3) (ns.length + 1) (cs ++ [a, b, c, d]))
    (hg : ((w2.alloc o1).alloc o2).grownBy w3 nv.ownBlock) (hf : nv.ownBlock = some g3 ∨ g3 = w2.heap.size + 2) (hne : (9 : TypeId) ≠ 44) :
    Mid q x B w ks (ns ++ [n]) kv (.slice (some ⟨g3, 0, none⟩) (ns.length + 1) cap3) (cs ++ [a, b, c, d]) (w3.setCell ⟨B + 1, 3, none⟩ (.slice (some ⟨g3, 0, none⟩) (ns.length + 1) cap3)) := by
  have hkl := fun b hb => hc.hkv.lt b hb
  have hnl := fun b hb => hc.hnv.lt b hb
  have hsz3 : w2.heap.size + 2 ≤ w3.heap.size := by have := hg.size; simpa using this
  have hsz4 : (w3.setCell ⟨B + 1, 3, none⟩ (.slice (some ⟨g3, 0, none⟩) (ns.length + 1) cap3)).heap.size = w3.heap.size := by simp [World.setCell]
  have hblk : ∀ k, k < w2.heap.size → k ≠ B + 1 → nv.ownBlock ≠ some k → (w3.setCell ⟨B + 1, 3, none⟩ (.slice (some ⟨g3, 0, none⟩) (ns.length + 1) cap3)).heap[k]? = w2.heap[k]? := by
    intro k hk hne hkn
    rw [Below.heap_setCell w3 ⟨B + 1, 3, none⟩ _ k hne, hg.block k (by simp; omega) (fun h => hkn h.symm)]
    exact (Below.heap_alloc (w2.alloc o1) o2 k (by simp; omega)).trans (Below.heap_alloc w2 o1 k hk)
  have hRl := h.hR.lt
  refine ⟨?_, hN3.set_ 3 _, ?_, ?_, ?_, ?_⟩
  · exact (hblk B hRl (by omega) (fun e => by have := (hnl B e).1; omega)).trans h.hR
  · exact ownsRow_same h.hkv fun k hk => hblk k (by have := (hkl k hk).2; omega) (by have := (hkl k hk).1; omega) (fun e => rows_apart h.hkv h.hnv hne k hk e)
  · rw [List.length_append]; exact ownsRow_setCell_below ho (a := ⟨B + 1, 3, none⟩) (by show B + 1 < B + 2; omega) _
  · refine KidsW.snoc ?_ ns cs ?_
    · refine NodeW.mono (fun g hg2 hl => ?_) n _ hn
      have e1 : kv.ownBlock ≠ some g := fun e => by have := (hkl g e).2; omega
      have e2 : nv.ownBlock ≠ some g := fun e => by have := (hnl g e).2; omega
      have e3 := hc.hN.lt
      refine ⟨⟨by omega, e1, fun e => ?_⟩, by omega, hblk g hl (by omega) e2⟩
      simp [Value.ownBlock] at e
      subst e
      rcases hf with hf | hf
      · exact e2 hf
      · omega
    · refine KidsW.mono (fun g hg2 hl => ?_) ns cs h.hkids
      refine ⟨⟨hg2.1, hg2.2.1, fun e => ?_⟩, by omega, hblk g hl (by have := hg2.1; omega) hg2.2.2⟩
      simp [Value.ownBlock] at e
      subst e
      rcases hf with hf | hf
      · exact hg2.2.2 hf
      · omega
  · exact h.bel.trans ⟨hg.os, hg.tape, hg.output, by omega, fun k hk => hblk k (by omega) (by omega) (fun e => by have := (hnl k e).1; omega)⟩
/-- What the node is at the end. -/
theorem Mid.node {t : List UInt8} (h : Mid q x B w ks ns kv nv cs wr) (hx : strOf t = x) {w2 : World} (hb : ∀ k, B + 2 ≤ k → w2.heap[k]? = wr.heap[k]?) (hs : wr.heap.size ≤ w2.heap.size) : NodeW w2 (fun g => B ≤ g) (.mk q t ks ns) (.agg #[.int .u8 q, .string x, kv, nv]) := by
  have hh : ∀ g, B + 2 ≤ g → g < wr.heap.size → (B ≤ g) ∧ g < w2.heap.size ∧ w2.heap[g]? = wr.heap[g]? := fun g hg hl => ⟨by omega, by omega, hb g hg⟩
  unfold NodeW
  refine ⟨kv, nv, cs, by rw [hx], ?_, ?_, ?_⟩
  · exact (RowW.own (ok := fun g => B + 2 ≤ g) h.hkv (fun g _ hg => hg)).mono hh
  · exact (RowW.own (ok := fun g => B + 2 ≤ g) h.hnv (fun g _ hg => hg)).mono hh
  · exact KidsW.mono (fun g hg hl => hh g hg.1 hl) ns cs h.hkids
end Go.Proofs.Ytjnmcadfaombjaa

/- Helpers for the walks of a map's and a row's value (chapter 10). -/
namespace Go.Proofs.Ytjnmcadfaombjaa
open Go.RowKit
set_option linter.unusedVariables false
set_option linter.unusedSimpArgs false
theorem elems_step {val : Nat → Option (Node × Nat)} {ts : List Tok} {map : Bool} {endk : Nat} (hv : ∀ k, ts.length ≤ k → val k = none) (g k : Nat) (ks : List (List UInt8)) (ns : List Node) (hg : ts.length < g + k) :
    elems val ts map endk g k ks ns = if map = true ∧ ¬ (isK ts k 34 = true ∧ isK ts (k + 1) 58 = true) then none
      else match val (if map then k + 2 else k) with
        | none => none
        | some (n, k2) =>
          if isK ts k2 endk then some (if map then ks ++ [txt ts k] else ks, ns ++ [n], k2 + 1)
          else if isK ts k2 44 then elems val ts map endk (g - 1) (k2 + 1) (if map then ks ++ [txt ts k] else ks) (ns ++ [n])
          else none := by
  cases g with
  | zero =>
    have h0 : isK ts k 34 = false := isK_none (List.getElem?_eq_none (by omega))
    show none = _
    cases map
    · rw [if_neg (by simp)]
      rw [show (if false = true then k + 2 else k) = k from rfl, hv k (by omega)]
    · rw [if_pos ⟨rfl, fun h => by rw [h0] at h; cases h.1⟩]
  | succ g => rfl
theorem strC_length (ks : List (List UInt8)) : (strC ks).length = ks.length := List.length_map _
theorem infoStr : (Try.prog.info? 9).map (fun i => (i.zero, i.size, i.bytes)) = some (some (.string ⟨#[]⟩), 1, 16) := by kernel_rfl
theorem infoNode : (Try.prog.info? 44).map (fun i => (i.zero, i.size, i.bytes)) = some (some zeroN, 4, 72) := by kernel_rfl
/-- A block below the rows lies as it lay when a row of the call's own has grown. -/
theorem key_box {W w3 : World} {b n : Nat} {t e : TypeId} {cs : Array Value} {size : Nat} {v : Value} {xs : List Value} (hN : Blk W (b + 1) t cs) (ho : W.ownsRow (b + 2) e size v n xs) (hg : W.grownBy w3 v.ownBlock) : Blk w3 (b + 1) t cs :=
  (hg.block (b + 1) hN.lt (fun h => by have := (ho.lt _ h.symm).1; omega)).trans hN
theorem key_cell {W w3 : World} {g o b n : Nat} {e : TypeId} {size : Nat} {v u : Value} {xs : List Value} (hg : W.grownBy w3 v.ownBlock) (ho : W.ownsRow (b + 2) e size v n xs) (hc : W.cell? ⟨g, o, none⟩ = some u) (h : g < b + 2) (hl : g < W.heap.size) : w3.cell? ⟨g, o, none⟩ = some u :=
  (World.cell?_of_block (w := W) (a := ⟨g, o, none⟩) (hg.block g hl (fun h => by have := (ho.lt _ h.symm).1; omega))).trans hc
theorem key_far {w3 : World} {g o b g2 m cap2 : Nat} {u : Value} (hc : w3.cell? ⟨g, o, none⟩ = some u) (h : g ≠ b) : (w3.setCell ⟨b, 2, none⟩ (.slice (some ⟨g2, 0, none⟩) m cap2)).cell? ⟨g, o, none⟩ = some u :=
  (World.cell?_of_block (w := w3) (a := ⟨g, o, none⟩) (Below.heap_setCell w3 ⟨b, 2, none⟩ _ g h)).trans hc
theorem TokAt.wider {w : World} {B C : Nat} {ao : Option Addr} {ts : List Tok} (h : TokAt w B ao ts) (hC : B ≤ C) : TokAt w C ao ts := by
  rcases h with h | ⟨g, hg, hl, hc⟩
  · exact .inl h
  · exact .inr ⟨g, hg, by omega, hc⟩
theorem own_shape {w : World} {base : Nat} {e : TypeId} {size n : Nat} {v : Value} {xs : List Value} (h : w.ownsRow base e size v n xs) : ∃ o m c, v = .slice o m c := by
  rcases h.2 with ⟨rfl, _⟩ | ⟨g, cap, cur, rfl, _⟩
  · exact ⟨_, _, _, rfl⟩
  · exact ⟨_, _, _, rfl⟩
theorem row_shape {w : World} {ok : Nat → Prop} {v : Value} {n : Nat} {xs : List Value} (h : RowW w ok v n xs) : ∃ o m c, v = .slice o m c := by
  rcases h with ⟨rfl, _⟩ | ⟨g, cap, rfl, _⟩
  · exact ⟨_, _, _, rfl⟩
  · exact ⟨_, _, _, rfl⟩
theorem node_shape {w : World} {ok : Nat → Prop} {n : Node} {a b c d : Value} (h : NodeW w ok n (.agg #[a, b, c, d])) :
    ∃ (u1 : Int) (u2 : ByteArray) (u3 : Option Addr) (u4 u5 : Nat) (u6 : Option Addr) (u7 u8 : Nat), a = .int .u8 u1 ∧ b = .string u2 ∧ c = .slice u3 u4 u5 ∧ d = .slice u6 u7 u8 := by
  obtain ⟨k, t, ks, ns⟩ := n
  unfold NodeW at h
  obtain ⟨kv, nv, cs, hv, h1, h2, _⟩ := h
  obtain ⟨o1, m1, c1, rfl⟩ := row_shape h1
  obtain ⟨o2, m2, c2, rfl⟩ := row_shape h2
  simp only [Value.agg.injEq, Array.mk.injEq, List.cons.injEq, and_true] at hv
  obtain ⟨rfl, rfl, rfl, rfl⟩ := hv
  exact ⟨_, _, _, _, _, _, _, _, rfl, rfl, rfl, rfl⟩
theorem far4 {w : World} {B k : Nat} (a b c d : Value) (h : k ≠ B) : ((((w.setCell ⟨B, 0, none⟩ a).setCell ⟨B, 1, none⟩ b).setCell ⟨B, 2, none⟩ c).setCell ⟨B, 3, none⟩ d).heap[k]? = w.heap[k]? := by
  rw [Below.heap_setCell _ ⟨B, 3, none⟩ _ k h, Below.heap_setCell _ ⟨B, 2, none⟩ _ k h, Below.heap_setCell _ ⟨B, 1, none⟩ _ k h, Below.heap_setCell _ ⟨B, 0, none⟩ _ k h]
/-- What holds at the head of the loop over a row's or a map's members. -/
structure LoopSt (ts : List Tok) (map : Bool) (endk q : Nat) (x : ByteArray) (B : Nat) (w : World) (val : Nat → Option (Node × Nat)) (R : Option (Node × Nat)) (qx : List UInt8) (j : Nat) (wr : World) : Prop where
  ex : ∃ (G : Nat) (ks : List (List UInt8)) (ns : List Node) (kv nv : Value) (cs : List Value), Mid q x B w ks ns kv nv cs wr ∧
    ts.length < G + (j + 1) ∧ ks.length ≤ j ∧ ns.length ≤ j ∧
    R = (match elems val ts map endk G (j + 1) ks ns with | none => none | some (ks', ns', k2) => some (.mk q qx ks' ns', k2))
  le : j ≤ ts.length
end Go.Proofs.Ytjnmcadfaombjaa

/- Walks: a map's value (chapter 10). -/
namespace Go.Proofs.Ytjnmcadfaombjaa
open Go.RowKit
set_option linter.unusedVariables false
set_option linter.unusedSimpArgs false
set_option maxRecDepth 100000 in
set_option maxHeartbeats 8000000 in
theorem rvalue_map (f : Nat) (ts : List Tok) (ao : Option Addr) (cap k : Nat) (t : Tok) (w : World) (hl : ts.length ≤ 100000) (ht : ts[k]? = some t) (hk2 : k < ts.length) (hT : TokAt w w.heap.size ao ts) (hq : t.kind = 123)
    (hf : ts.length < f + 1 + k)
    (ih : ∀ k w, k ≤ 200000 → ts.length < f + k → TokAt w w.heap.size ao ts → Calls Try.prog 29 #[.slice ao ts.length cap, .int .i64 k] w fun e w' => ValR (valI f ts k) w.heap.size e w' ∧ Below w.heap.size w w') :
    Calls Try.prog 29 #[.slice ao ts.length cap, .int .i64 k] w fun e w' => ValR (valI (f + 1) ts k) w.heap.size e w' ∧ Below w.heap.size w w' := by
  have HV : Hid (valI (f + 1) ts k = if isK ts (k + 1) 125 then some (.mk 123 t.text [] [], k + 2)
      else match elems (fun j => valI f ts j) ts true 125 ts.length (k + 1) [] [] with
        | none => none
        | some (ks, ns, k2) => some (.mk 123 t.text ks ns, k2)) := by
    show _ = _
    rw [valI_at ht, if_neg (by omega), if_neg (by omega), hq]
    rfl
  have HIH := Lib.hid ih
  have HT := Lib.hid hT
  have HIS := Lib.hid (fun k c w (hT : TokAt w w.heap.size ao ts) hk => ris_tok ts ao cap k c w.heap.size w hT (by omega) hk)
  obtain ⟨g, hao, hg, c0, c1⟩ := hT.facts ht
  have hne : g ≠ w.heap.size := by omega
  rw [hq] at c0
  generalize hxx : strOf t.text = x at *
  have HX := Lib.hid hxx
  clear hT ih hq ht hxx
  subst hao
  go_enter Try.func29, Try.ntmps29
  go_wp2_with fail
  have hb0 : Below w.heap.size w ((w.alloc (.cells zeroNC 44)).alloc (.cells #[.int .u8 123, .string x, .slice none 0 0, .slice none 0 0] 44)) := ((Below.refl w.heap.size w).alloc (Nat.le_refl _) _).alloc (by simp) _
  have hR0 : Blk ((w.alloc (.cells zeroNC 44)).alloc (.cells #[.int .u8 123, .string x, .slice none 0 0, .slice none 0 0] 44)) w.heap.size 44 zeroNC := (Blk.new w _ _).alloc _
  have hN0 : Blk ((w.alloc (.cells zeroNC 44)).alloc (.cells #[.int .u8 123, .string x, .slice none 0 0, .slice none 0 0] 44)) (w.heap.size + 1) 44 #[.int .u8 123, .string x, .slice none 0 0, .slice none 0 0] := by
    have := Blk.new (w.alloc (.cells zeroNC 44)) 44 #[.int .u8 123, .string x, .slice none 0 0, .slice none 0 0]
    rwa [World.size_alloc] at this
  unfold zeroNC at hb0 hR0 hN0
  obtain ⟨W0, hW0⟩ : ∃ W0, ((w.alloc (.cells #[.int .u8 0, .string ⟨#[]⟩, .slice none 0 0, .slice none 0 0] 44)).alloc (.cells #[.int .u8 123, .string x, .slice none 0 0, .slice none 0 0] 44)) = W0 := ⟨_, rfl⟩
  rw [hW0] at hb0 hR0 hN0 ⊢
  clear hW0 c0 c1
  have HB0 := Lib.hid hb0
  have HR0 := Lib.hid hR0
  have HN0 := Lib.hid hN0
  have hT0' : TokAt W0 W0.heap.size (some ⟨g, 0, none⟩) ts := (HT.out.below hb0 (Nat.le_refl _)).wider hb0.size
  have HI1 := Lib.hid (HIS.out (k + 1) 125 W0 hT0' (by omega))
  rw [show ((k + 1 : Nat) : Int) = (k : Int) + 1 by omega, show ((125 : Nat) : Int) = 125 from rfl] at HI1
  clear hb0 hR0 hN0 hT0'
  refine HI1.out.mono ?_
  rintro e w' ⟨rfl, rfl⟩
  cases he : isK ts (k + 1) 125 with
  | true =>
    have HF : Hid (∀ W, ValR (valI (f + 1) ts k) w.heap.size (.returned (.tuple #[.agg #[.int .u8 123, .string x, .slice none 0 0, .slice none 0 0], .int .i64 ((k : Int) + 2)])) W) := fun W => by
      rw [HV.out, if_pos he, ← HX.out]; exact ⟨_, _, _, _, by rw [show ((k + 2 : Nat) : Int) = (k : Int) + 2 by omega]; rfl, node_leaf _ _ 123 _⟩
    have n0 := HN0.out.cell 0
    have n1 := HN0.out.cell 1
    have n2 := HN0.out.cell 2
    have n3 := HN0.out.cell 3
    have r0 := HR0.out.cell 0
    have r1 := HR0.out.cell 1
    have r2 := HR0.out.cell 2
    have r3 := HR0.out.cell 3
    have f0 := HR0.out.frozen 0
    have f1 := HR0.out.frozen 1
    have f2 := HR0.out.frozen 2
    have f3 := HR0.out.frozen 3
    clear he
    go_wp2_with fail
    have hF := (((HR0.out.set_ 0 (.int .u8 123)).set_ 1 (.string x)).set_ 2 (.slice none 0 0)).set_ 3 (.slice none 0 0)
    have s0 : (World.setCell _ _ _).cell? _ = some (.int .u8 123) := hF.cell 0
    have s1 : (World.setCell _ _ _).cell? _ = some (.string x) := hF.cell 1
    have s2 : (World.setCell _ _ _).cell? _ = some (.slice none 0 0) := hF.cell 2
    have s3 : (World.setCell _ _ _).cell? _ = some (.slice none 0 0) := hF.cell 3
    exact bodyPost_ret (v := .tuple #[.agg #[.int .u8 123, .string x, .slice none 0 0, .slice none 0 0], .int .i64 ((k : Int) + 2)]) (by simp [results, Try.f29, go_sem, s0, s1, s2, s3]) rfl ⟨HF.out _, (((HB0.out.setCell (p := ⟨w.heap.size, 0, none⟩) (Nat.le_refl _) _).setCell (p := ⟨w.heap.size, 1, none⟩) (Nat.le_refl _) _).setCell (p := ⟨w.heap.size, 2, none⟩) (Nat.le_refl _) _).setCell (p := ⟨w.heap.size, 3, none⟩) (Nat.le_refl _) _⟩
  | false =>
    rw [he, if_neg (by simp)] at HV
    have HST : Hid (LoopSt ts true 125 123 x w.heap.size w (fun j => valI f ts j) (valI (f + 1) ts k) t.text k W0) :=
      ⟨⟨ts.length, [], [], .slice none 0 0, .slice none 0 0, [], ⟨HR0.out, HN0.out, World.ownsRow_nil _ _ _ _, World.ownsRow_nil _ _ _ _, by unfold KidsW; rfl, HB0.out⟩, by omega, by simp, by simp, HV.out⟩, by omega⟩
    clear he HI1 HB0 HR0 HN0 HV
    go_wp2_with fail
    go_loopw [1] (fun z wr => ∃ j : Nat, z = .int .i64 j ∧ k ≤ j ∧ LoopSt ts true 125 123 x w.heap.size w (fun j => valI f ts j) (valI (f + 1) ts k) t.text j wr) (fun z _ => 200000 - (intOf z).toNat)
    case atStart => exact ⟨k, rfl, Nat.le_refl _, HST.out⟩
    case round =>
      obtain ⟨j, rfl, hkj, ⟨⟨G, ks, ns, kv, nv, cs, hM, hG, hksl, hnsl, hVj⟩, hjl⟩⟩ := hrel
      clear HST
      have HVj := Lib.hid hVj
      have HM := Lib.hid hM
      clear hVj hM
      have hst := elems_step (val := fun j => valI f ts j) (ts := ts) (map := true) (endk := 125) (fun k hk => valI_out hk) G (j + 1) ks ns hG
      have hTw : TokAt wr wr.heap.size (some ⟨g, 0, none⟩) ts := (HT.out.below HM.out.bel (Nat.le_refl _)).wider HM.out.bel.size
      have HI34 := Lib.hid (HIS.out (j + 1) 34 wr hTw (by omega))
      have HI58 := Lib.hid (HIS.out (j + 2) 58 wr hTw (by omega))
      rw [show ((j + 1 : Nat) : Int) = (j : Int) + 1 by omega, show ((34 : Nat) : Int) = 34 from rfl] at HI34
      rw [show ((j + 2 : Nat) : Int) = (j : Int) + 1 + 1 by omega, show ((58 : Nat) : Int) = 58 from rfl] at HI58
      have HTw := Lib.hid hTw
      clear hTw
      cases h34 : isK ts (j + 1) 34 with
      | false =>
        have HNo : Hid (valI (f + 1) ts k = none) := by
          show _ = _; rw [HVj.out, hst, if_pos ⟨rfl, fun h => by rw [h34] at h; cases h.1⟩]
        rw [h34] at HI34
        clear hst h34
        have r0 := HM.out.hR.cell 0
        have r1 := HM.out.hR.cell 1
        have r2 := HM.out.hR.cell 2
        have r3 := HM.out.hR.cell 3
        have f0 := HM.out.hR.frozen 0
        have f1 := HM.out.hR.frozen 1
        have f2 := HM.out.hR.frozen 2
        have f3 := HM.out.hR.frozen 3
        unfold zeroNC at r0 r1 r2 r3
        go_wp2_with (first | (go_at_call 45; with_reducible refine (HI34.out).mono ?_; rintro e w' ⟨rfl, rfl⟩) | (go_at_call 45; with_reducible refine (HI58.out).mono ?_; rintro e w' ⟨rfl, rfl⟩))
        have hF := (((HM.out.hR.set_ 0 (.int .u8 0)).set_ 1 (.string ⟨#[]⟩)).set_ 2 (.slice none 0 0)).set_ 3 (.slice none 0 0)
        have s0 : (World.setCell _ _ _).cell? _ = some (.int .u8 0) := hF.cell 0
        have s1 : (World.setCell _ _ _).cell? _ = some (.string ⟨#[]⟩) := hF.cell 1
        have s2 : (World.setCell _ _ _).cell? _ = some (.slice none 0 0) := hF.cell 2
        have s3 : (World.setCell _ _ _).cell? _ = some (.slice none 0 0) := hF.cell 3
        exact bodyPost_ret (v := .tuple #[.agg #[.int .u8 0, .string ⟨#[]⟩, .slice none 0 0, .slice none 0 0], .int .i64 (-1)]) (by simp [results, Try.f29, go_sem, s0, s1, s2, s3]) rfl ⟨by rw [HNo.out]; rfl, (((HM.out.bel.setCell (p := ⟨w.heap.size, 0, none⟩) (Nat.le_refl _) _).setCell (p := ⟨w.heap.size, 1, none⟩) (Nat.le_refl _) _).setCell (p := ⟨w.heap.size, 2, none⟩) (Nat.le_refl _) _).setCell (p := ⟨w.heap.size, 3, none⟩) (Nat.le_refl _) _⟩
      | true =>
        rw [h34] at HI34
        cases h58 : isK ts (j + 2) 58 with
        | false =>
          have HNo : Hid (valI (f + 1) ts k = none) := by
            show _ = _; rw [HVj.out, hst, if_pos ⟨rfl, fun h => by rw [h58] at h; cases h.2⟩]
          rw [h58] at HI58
          clear hst h34 h58
          have r0 := HM.out.hR.cell 0
          have r1 := HM.out.hR.cell 1
          have r2 := HM.out.hR.cell 2
          have r3 := HM.out.hR.cell 3
          have f0 := HM.out.hR.frozen 0
          have f1 := HM.out.hR.frozen 1
          have f2 := HM.out.hR.frozen 2
          have f3 := HM.out.hR.frozen 3
          unfold zeroNC at r0 r1 r2 r3
          go_wp2_with (first | (go_at_call 45; with_reducible refine (HI34.out).mono ?_; rintro e w' ⟨rfl, rfl⟩) | (go_at_call 45; with_reducible refine (HI58.out).mono ?_; rintro e w' ⟨rfl, rfl⟩))
          have hF := (((HM.out.hR.set_ 0 (.int .u8 0)).set_ 1 (.string ⟨#[]⟩)).set_ 2 (.slice none 0 0)).set_ 3 (.slice none 0 0)
          have s0 : (World.setCell _ _ _).cell? _ = some (.int .u8 0) := hF.cell 0
          have s1 : (World.setCell _ _ _).cell? _ = some (.string ⟨#[]⟩) := hF.cell 1
          have s2 : (World.setCell _ _ _).cell? _ = some (.slice none 0 0) := hF.cell 2
          have s3 : (World.setCell _ _ _).cell? _ = some (.slice none 0 0) := hF.cell 3
          exact bodyPost_ret (v := .tuple #[.agg #[.int .u8 0, .string ⟨#[]⟩, .slice none 0 0, .slice none 0 0], .int .i64 (-1)]) (by simp [results, Try.f29, go_sem, s0, s1, s2, s3]) rfl ⟨by rw [HNo.out]; rfl, (((HM.out.bel.setCell (p := ⟨w.heap.size, 0, none⟩) (Nat.le_refl _) _).setCell (p := ⟨w.heap.size, 1, none⟩) (Nat.le_refl _) _).setCell (p := ⟨w.heap.size, 2, none⟩) (Nat.le_refl _) _).setCell (p := ⟨w.heap.size, 3, none⟩) (Nat.le_refl _) _⟩
        | true =>
          rw [h58] at HI58
          rw [if_neg (fun h => h.2 ⟨h34, h58⟩)] at hst
          have hj1 := isK_lt h34
          obtain ⟨tk, htk⟩ : ∃ tk, ts[j + 1]? = some tk := ⟨_, List.getElem?_eq_getElem hj1⟩
          obtain ⟨g', hg'e, hg'l, k0, k1⟩ := HTw.out.facts htk
          have htx : txt ts (j + 1) = tk.text := by unfold txt; rw [htk]
          rw [htx] at hst
          have hst2 : elems (fun j => valI f ts j) ts true 125 G (j + 1) ks ns = match valI f ts (j + 1 + 2) with
              | none => none
              | some (n, k2) => if isK ts k2 125 then some (ks ++ [tk.text], ns ++ [n], k2 + 1) else if isK ts k2 44 then elems (fun j => valI f ts j) ts true 125 (G - 1) (k2 + 1) (ks ++ [tk.text]) (ns ++ [n]) else none := hst
          have HST := Lib.hid hst2
          obtain rfl : g = g' := by simpa using hg'e
          clear hst hst2 h34 h58 htk htx hg'e
          go_wp2_with (first | (go_at_call 45; with_reducible refine (HI34.out).mono ?_; rintro e w' ⟨rfl, rfl⟩) | (go_at_call 45; with_reducible refine (HI58.out).mono ?_; rintro e w' ⟨rfl, rfl⟩))
          have hN := HM.out.hN
          have hkv := HM.out.hkv
          have n2 := hN.cell 2
          have a1 : IntKind.i64.wrap ((j : Int) + 1) = (j : Int) + 1 := IntWalk.i64_in _ (by omega)
          have a2 : 0 ≤ (j : Int) + 1 := by omega
          have a3 : ((j : Int) + 1).toNat = j + 1 := by omega
          have a4 : j + 1 < ts.length := hj1
          go_upto_region 18 with fail
          have n0 := hN.cell 0
          obtain ⟨i0, hi, hz0, hz1, hz2⟩ := info_parts infoStr
          have e3 : ks.length + 1 ≤ maxLen := by unfold maxLen; omega
          have e4 : (ks.length + 1) * 16 ≤ 140737488355328 := by omega
          have hBN := hN.lt
          have e5 : w.heap.size + 2 ≤ (wr.drew.alloc (.cells #[.string (strOf tk.text)] 9)).heap.size := by simp; omega
          have hz6 : (wr.drew.alloc (.cells #[.string (strOf tk.text)] 9)).heap.size = wr.heap.size + 1 := by simp
          have a5 : (j : Int) + 1 < ts.length := by omega
          have hne2 : g ≠ w.heap.size + 1 := by omega
          have hNA := (hN.alloc (.cells #[.string (strOf tk.text)] 9)).drew
          have hkvA : ((wr.alloc (.cells #[.string (strOf tk.text)] 9)).drew).ownsRow (w.heap.size + 2) 9 1 kv ks.length (strC ks) := hkv.alloc _
          have hbA : Below wr.heap.size wr ((wr.alloc (.cells #[.string (strOf tk.text)] 9)).drew) := below_drew' ((Below.refl _ wr).alloc (Nat.le_refl _) _)
          have kA := (hbA.cell (p := ⟨g, (j + 1) * 4 + 1, none⟩) hg'l).trans k1
          have hnw : ∀ i u, [Value.string (strOf tk.text)][i]? = some u → ((wr.alloc (.cells #[.string (strOf tk.text)] 9)).drew).cell? ((⟨wr.heap.size, 0, none⟩ : Addr).add i) = some u := cells_new wr #[.string (strOf tk.text)] 9
          go_cut [] (fun wx => KeyCut w.heap.size 123 x kv nv ks tk.text wr wx)
          case first =>
            go_region_law (refine step_append_lies _ rfl (.tmp 75) (.tmp 81) 36 rfl (w.heap.size + 2) 9 i0 (.string ⟨#[]⟩) 1 16 Try.underlying36 hi hz0 hz1 hz2 rfl (by decide) kv ks.length (strC ks) rfl hkvA ⟨wr.heap.size, 0, none⟩ 1 1 [.string (strOf tk.text)] rfl rfl hnw (by simp [Value.oneCell']) (by omega) e3 e4 e5 (wr.heap.size + 1) (by simp) ?_; intro g2 cap2 w3 hown3 hgrow3 hfr3 hlt3; have hN3 := key_box hNA hkvA hgrow3; have k3 := key_cell hgrow3 hkvA kA (by omega) (by simp; omega); have m2 := hN3.cell 2; have mf := hN3.frozen 2; have k4 := key_far (g2 := g2) (cap2 := cap2) (m := ks.length + 1) k3 hne2)
            all_goals
              go_wp2_with fail
              go_meet
              exact key_done hN3 hown3 hgrow3 hfr3
          case rest =>
          obtain ⟨kv2, hM2⟩ := HM.out.key hcut (by decide)
          have HM2 := Lib.hid hM2
          clear hcut hM2 hN hkv n2 a1 a2 a3 a4 n0 hi hz0 hz1 hz2 e3 e4 hBN e5 hz6 a5 hne2 hNA hkvA hbA kA hnw k0 k1 hg'l HI34 HI58 HTw
          rename World => wx
          obtain ⟨o5, m5, c5, rfl⟩ := own_shape HM2.out.hkv
          obtain ⟨o6, m6, c6, rfl⟩ := own_shape HM2.out.hnv
          have hTx : TokAt wx wx.heap.size (some ⟨g, 0, none⟩) ts := (HT.out.below HM2.out.bel (Nat.le_refl _)).wider HM2.out.bel.size
          have hIH := HIH.out (j + 1 + 2) wx (by omega) (by omega) hTx
          rw [show ((j + 1 + 2 : Nat) : Int) = (j : Int) + 1 + 2 by omega] at hIH
          clear hTx
          cases hval : valI f ts (j + 1 + 2) with
          | none =>
            have HNo : Hid (valI (f + 1) ts k = none) := by
              show _ = _; rw [HVj.out, HST.out, hval]
            rw [hval] at hIH
            have HIv : Hid (Calls Try.prog 29 #[.slice (some ⟨g, 0, none⟩) ts.length cap, .int .i64 ((j : Int) + 1 + 2)] wx fun e w' => e = .returned (.tuple #[.agg #[.int .u8 0, .string ⟨#[]⟩, .slice none 0 0, .slice none 0 0], .int .i64 (-1)]) ∧ Below wx.heap.size wx w') := hIH
            clear hIH hval HST HVj HIH HIS HT HX
            go_wp2_with (go_at_call 29; refine (HIv.out).mono ?_; rintro e w2 ⟨rfl, hb2⟩; have hR3 := (HM2.out.hR.below hb2 HM2.out.hR.lt).alloc (.cells #[.int .u8 0, .string ⟨#[]⟩, .slice none 0 0, .slice none 0 0] 44); have r0 := hR3.cell 0; have r1 := hR3.cell 1; have r2 := hR3.cell 2; have r3 := hR3.cell 3; have f0 := hR3.frozen 0; have f1 := hR3.frozen 1; have f2 := hR3.frozen 2; have f3 := hR3.frozen 3; have hs2 := hb2.size; have hs3 := HM2.out.hR.lt; unfold zeroNC at r0 r1 r2 r3)
            have hB2 := (HM2.out.bel.trans (hb2.mono HM2.out.bel.size)).alloc (by omega) (.cells #[.int .u8 0, .string ⟨#[]⟩, .slice none 0 0, .slice none 0 0] 44)
            have hF := (((hR3.set_ 0 (.int .u8 0)).set_ 1 (.string ⟨#[]⟩)).set_ 2 (.slice none 0 0)).set_ 3 (.slice none 0 0)
            have s0 : (World.setCell _ _ _).cell? _ = some (.int .u8 0) := hF.cell 0
            have s1 : (World.setCell _ _ _).cell? _ = some (.string ⟨#[]⟩) := hF.cell 1
            have s2 : (World.setCell _ _ _).cell? _ = some (.slice none 0 0) := hF.cell 2
            have s3 : (World.setCell _ _ _).cell? _ = some (.slice none 0 0) := hF.cell 3
            exact bodyPost_ret (v := .tuple #[.agg #[.int .u8 0, .string ⟨#[]⟩, .slice none 0 0, .slice none 0 0], .int .i64 (-1)]) (by simp [results, Try.f29, go_sem, s0, s1, s2, s3]) rfl ⟨by rw [HNo.out]; rfl, (((hB2.setCell (p := ⟨w.heap.size, 0, none⟩) (Nat.le_refl _) _).setCell (p := ⟨w.heap.size, 1, none⟩) (Nat.le_refl _) _).setCell (p := ⟨w.heap.size, 2, none⟩) (Nat.le_refl _) _).setCell (p := ⟨w.heap.size, 3, none⟩) (Nat.le_refl _) _⟩
          | some r =>
            obtain ⟨n, k2⟩ := r
            have hbd := valI_bd _ _ _ _ _ hval
            rw [hval] at hIH HST
            dsimp only at HST
            have HIv : Hid (Calls Try.prog 29 #[.slice (some ⟨g, 0, none⟩) ts.length cap, .int .i64 ((j : Int) + 1 + 2)] wx fun e w' => (∃ a b c d, e = .returned (.tuple #[.agg #[a, b, c, d], .int .i64 k2]) ∧ NodeW w' (fun g => wx.heap.size ≤ g) n (.agg #[a, b, c, d])) ∧ Below wx.heap.size wx w') := hIH
            clear hIH hval
            obtain ⟨i0, hi, hz0, hz1, hz2⟩ := info_parts infoNode
            have e3 : ns.length + 1 ≤ maxLen := by unfold maxLen; omega
            have e4 : (ns.length + 1) * 72 ≤ 140737488355328 := by omega
            have hk20 : ¬ ((k2 : Int) < 0) := by omega
            have hxs := HM2.out.hN.lt
            go_upto_region 24 with (first | (go_at_call 29; refine (HIv.out).mono ?_; rintro e w2 ⟨⟨a, b, c, d, rfl, hn⟩, hb2⟩; have HN := Lib.hid hn; obtain ⟨u1, u2, u3, u4, u5, u6, u7, u8, rfl, rfl, rfl, rfl⟩ := node_shape hn; clear hn; have hs2 := hb2.size; have HMc := Lib.hid (HM2.out.below hb2); have n2 := (HMc.out.hN.alloc (.cells #[.int .u8 u1, .string u2, .slice u3 u4 u5, .slice u6 u7 u8] 44)).cell 3; have e5 : w.heap.size + 2 ≤ ((w2.alloc (.cells #[.int .u8 u1, .string u2, .slice u3 u4 u5, .slice u6 u7 u8] 44)).alloc (.cells #[.int .u8 u1, .string u2, .slice u3 u4 u5, .slice u6 u7 u8] 44)).heap.size := (by simp; omega); have hNc := (HMc.out.hN.alloc (.cells #[.int .u8 u1, .string u2, .slice u3 u4 u5, .slice u6 u7 u8] 44)).alloc (.cells #[.int .u8 u1, .string u2, .slice u3 u4 u5, .slice u6 u7 u8] 44); have hnc : ((w2.alloc (.cells #[.int .u8 u1, .string u2, .slice u3 u4 u5, .slice u6 u7 u8] 44)).alloc (.cells #[.int .u8 u1, .string u2, .slice u3 u4 u5, .slice u6 u7 u8] 44)).ownsRow (w.heap.size + 2) 44 4 (.slice o6 m6 c6) ns.length cs := (HMc.out.hnv.alloc _).alloc _) | (at_builtin; refine wpList_append_lies _ rfl _ _ 42 rfl (w.heap.size + 2) 44 i0 zeroN 4 72 Try.underlying42 hi hz0 hz1 hz2 rfl (by decide) (.slice o6 m6 c6) ns.length cs rfl hnc ⟨w2.heap.size + 1, 0, none⟩ 1 1 [.int .u8 u1, .string u2, .slice u3 u4 u5, .slice u6 u7 u8] rfl rfl (cells_new1 w2 _ #[.int .u8 u1, .string u2, .slice u3 u4 u5, .slice u6 u7 u8] _) (by simp [Value.oneCell']) (by omega) e3 e4 e5 (w2.heap.size + 2) (by simp) ?_; intro g3 cap3 w3 hown3 hgrow3 hfr3 hlt3; have hN3 := key_box hNc hnc hgrow3; have m3 := hN3.cell 3; have mf := hN3.frozen 3))
            have hM4 := Mid.kid HM2.out HMc.out hs2 HN.out hN3 hown3 hgrow3 hfr3 (by decide)
            obtain ⟨W4, hW4⟩ : ∃ W4, (w3.setCell ⟨w.heap.size + 1, 3, none⟩ (.slice (some ⟨g3, 0, none⟩) (ns.length + 1) cap3)) = W4 := ⟨_, rfl⟩
            rw [hW4] at hM4 ⊢
            clear hW4 hown3 hgrow3 hfr3 hlt3 hN3 m3 mf hnc hNc n2 HMc HN HM2 e5 hs2 hb2 hi hz0 hz1 hz2 HIv HIH HM
            have HM4 := Lib.hid hM4
            clear hM4
            have hTx : TokAt W4 W4.heap.size (some ⟨g, 0, none⟩) ts := (HT.out.below HM4.out.bel (Nat.le_refl _)).wider HM4.out.bel.size
            have HIe := Lib.hid (HIS.out k2 125 W4 hTx (by omega))
            have HIc := Lib.hid (HIS.out k2 44 W4 hTx (by omega))
            rw [show ((125 : Nat) : Int) = 125 from rfl] at HIe
            rw [show ((44 : Nat) : Int) = 44 from rfl] at HIc
            clear hTx HIS HT
            cases hE : isK ts k2 125 with
            | true =>
              rw [if_pos hE] at HST
              rw [hE] at HIe
              have HF : Hid (valI (f + 1) ts k = some (.mk 123 t.text (ks ++ [tk.text]) (ns ++ [n]), k2 + 1)) := by show _ = _; rw [HVj.out, HST.out]
              clear HST HVj hE HIc
              have r0 := HM4.out.hR.cell 0
              have r1 := HM4.out.hR.cell 1
              have r2 := HM4.out.hR.cell 2
              have r3 := HM4.out.hR.cell 3
              have f0 := HM4.out.hR.frozen 0
              have f1 := HM4.out.hR.frozen 1
              have f2 := HM4.out.hR.frozen 2
              have f3 := HM4.out.hR.frozen 3
              unfold zeroNC at r0 r1 r2 r3
              have n0 := HM4.out.hN.cell 0
              have n1 := HM4.out.hN.cell 1
              have n2 := HM4.out.hN.cell 2
              have n3 := HM4.out.hN.cell 3
              go_wp2_with (go_at_call 45; with_reducible refine (HIe.out).mono ?_; rintro e w' ⟨rfl, rfl⟩)
              have hF := (((HM4.out.hR.set_ 0 (.int .u8 123)).set_ 1 (.string x)).set_ 2 (.slice o5 m5 c5)).set_ 3 (.slice (some ⟨g3, 0, none⟩) (ns.length + 1) cap3)
              have s0 : (World.setCell _ _ _).cell? _ = some (.int .u8 123) := hF.cell 0
              have s1 : (World.setCell _ _ _).cell? _ = some (.string x) := hF.cell 1
              have s2 : (World.setCell _ _ _).cell? _ = some (.slice o5 m5 c5) := hF.cell 2
              have s3 : (World.setCell _ _ _).cell? _ = some (.slice (some ⟨g3, 0, none⟩) (ns.length + 1) cap3) := hF.cell 3
              exact bodyPost_ret (v := .tuple #[.agg #[.int .u8 123, .string x, .slice o5 m5 c5, .slice (some ⟨g3, 0, none⟩) (ns.length + 1) cap3], .int .i64 ((k2 : Int) + 1)]) (by simp [results, Try.f29, go_sem, s0, s1, s2, s3]) rfl ⟨by rw [HF.out]; exact ⟨_, _, _, _, by rw [show ((k2 + 1 : Nat) : Int) = (k2 : Int) + 1 by omega]; rfl, HM4.out.node HX.out (fun b hb => far4 _ _ _ _ (by omega)) (by simp [World.setCell])⟩, (((HM4.out.bel.setCell (p := ⟨w.heap.size, 0, none⟩) (Nat.le_refl _) _).setCell (p := ⟨w.heap.size, 1, none⟩) (Nat.le_refl _) _).setCell (p := ⟨w.heap.size, 2, none⟩) (Nat.le_refl _) _).setCell (p := ⟨w.heap.size, 3, none⟩) (Nat.le_refl _) _⟩
            | false =>
              rw [if_neg (by rw [hE]; simp)] at HST
              rw [hE] at HIe
              cases hC : isK ts k2 44 with
              | true =>
                rw [if_pos hC] at HST
                rw [hC] at HIc
                have hk2l := isK_lt hC
                have HL : Hid (LoopSt ts true 125 123 x w.heap.size w (fun j => valI f ts j) (valI (f + 1) ts k) t.text k2 W4) := ⟨⟨G - 1, ks ++ [tk.text], ns ++ [n], _, _, _, HM4.out, by omega, by first | omega | (simp; omega), by first | omega | (simp; omega), by rw [HVj.out, HST.out]⟩, by omega⟩
                clear HST HVj hE hC HX
                go_wp2_with (first | (go_at_call 45; with_reducible refine (HIe.out).mono ?_; rintro e w' ⟨rfl, rfl⟩) | (go_at_call 45; with_reducible refine (HIc.out).mono ?_; rintro e w' ⟨rfl, rfl⟩))
                go_roundw
                case rel => exact ⟨k2, rfl, by omega, HL.out⟩
                case measure => simp [intOf]; omega
              | false =>
                rw [if_neg (by rw [hC]; simp)] at HST
                rw [hC] at HIc
                have HNo : Hid (valI (f + 1) ts k = none) := by
                  show _ = _; rw [HVj.out, HST.out]
                clear HST HVj hE hC HX
                have r0 := HM4.out.hR.cell 0
                have r1 := HM4.out.hR.cell 1
                have r2 := HM4.out.hR.cell 2
                have r3 := HM4.out.hR.cell 3
                have f0 := HM4.out.hR.frozen 0
                have f1 := HM4.out.hR.frozen 1
                have f2 := HM4.out.hR.frozen 2
                have f3 := HM4.out.hR.frozen 3
                unfold zeroNC at r0 r1 r2 r3
                go_wp2_with (first | (go_at_call 45; with_reducible refine (HIe.out).mono ?_; rintro e w' ⟨rfl, rfl⟩) | (go_at_call 45; with_reducible refine (HIc.out).mono ?_; rintro e w' ⟨rfl, rfl⟩))
                have hF := (((HM4.out.hR.set_ 0 (.int .u8 0)).set_ 1 (.string ⟨#[]⟩)).set_ 2 (.slice none 0 0)).set_ 3 (.slice none 0 0)
                have s0 : (World.setCell _ _ _).cell? _ = some (.int .u8 0) := hF.cell 0
                have s1 : (World.setCell _ _ _).cell? _ = some (.string ⟨#[]⟩) := hF.cell 1
                have s2 : (World.setCell _ _ _).cell? _ = some (.slice none 0 0) := hF.cell 2
                have s3 : (World.setCell _ _ _).cell? _ = some (.slice none 0 0) := hF.cell 3
                exact bodyPost_ret (v := .tuple #[.agg #[.int .u8 0, .string ⟨#[]⟩, .slice none 0 0, .slice none 0 0], .int .i64 (-1)]) (by simp [results, Try.f29, go_sem, s0, s1, s2, s3]) rfl ⟨by rw [HNo.out]; rfl, (((HM4.out.bel.setCell (p := ⟨w.heap.size, 0, none⟩) (Nat.le_refl _) _).setCell (p := ⟨w.heap.size, 1, none⟩) (Nat.le_refl _) _).setCell (p := ⟨w.heap.size, 2, none⟩) (Nat.le_refl _) _).setCell (p := ⟨w.heap.size, 3, none⟩) (Nat.le_refl _) _⟩
end Go.Proofs.Ytjnmcadfaombjaa

/- Walks: a row's value (chapter 10). -/
namespace Go.Proofs.Ytjnmcadfaombjaa
open Go.RowKit
set_option linter.unusedVariables false
set_option linter.unusedSimpArgs false
set_option maxRecDepth 100000 in
set_option maxHeartbeats 8000000 in
theorem rvalue_row (f : Nat) (ts : List Tok) (ao : Option Addr) (cap k : Nat) (t : Tok) (w : World) (hl : ts.length ≤ 100000) (ht : ts[k]? = some t) (hk2 : k < ts.length) (hT : TokAt w w.heap.size ao ts) (hq : t.kind = 91)
    (hf : ts.length < f + 1 + k)
    (ih : ∀ k w, k ≤ 200000 → ts.length < f + k → TokAt w w.heap.size ao ts → Calls Try.prog 29 #[.slice ao ts.length cap, .int .i64 k] w fun e w' => ValR (valI f ts k) w.heap.size e w' ∧ Below w.heap.size w w') :
    Calls Try.prog 29 #[.slice ao ts.length cap, .int .i64 k] w fun e w' => ValR (valI (f + 1) ts k) w.heap.size e w' ∧ Below w.heap.size w w' := by
  have HV : Hid (valI (f + 1) ts k = if isK ts (k + 1) 93 then some (.mk 91 t.text [] [], k + 2)
      else match elems (fun j => valI f ts j) ts false 93 ts.length (k + 1) [] [] with
        | none => none
        | some (ks, ns, k2) => some (.mk 91 t.text ks ns, k2)) := by
    show _ = _
    rw [valI_at ht, if_neg (by omega), if_neg (by omega), hq]
    rfl
  have HIH := Lib.hid ih
  have HT := Lib.hid hT
  have HIS := Lib.hid (fun k c w (hT : TokAt w w.heap.size ao ts) hk => ris_tok ts ao cap k c w.heap.size w hT (by omega) hk)
  obtain ⟨g, hao, hg, c0, c1⟩ := hT.facts ht
  have hne : g ≠ w.heap.size := by omega
  rw [hq] at c0
  generalize hxx : strOf t.text = x at *
  have HX := Lib.hid hxx
  clear hT ih hq ht hxx
  subst hao
  go_enter Try.func29, Try.ntmps29
  go_wp2_with fail
  have hb0 : Below w.heap.size w ((w.alloc (.cells zeroNC 44)).alloc (.cells #[.int .u8 91, .string x, .slice none 0 0, .slice none 0 0] 44)) := ((Below.refl w.heap.size w).alloc (Nat.le_refl _) _).alloc (by simp) _
  have hR0 : Blk ((w.alloc (.cells zeroNC 44)).alloc (.cells #[.int .u8 91, .string x, .slice none 0 0, .slice none 0 0] 44)) w.heap.size 44 zeroNC := (Blk.new w _ _).alloc _
  have hN0 : Blk ((w.alloc (.cells zeroNC 44)).alloc (.cells #[.int .u8 91, .string x, .slice none 0 0, .slice none 0 0] 44)) (w.heap.size + 1) 44 #[.int .u8 91, .string x, .slice none 0 0, .slice none 0 0] := by
    have := Blk.new (w.alloc (.cells zeroNC 44)) 44 #[.int .u8 91, .string x, .slice none 0 0, .slice none 0 0]
    rwa [World.size_alloc] at this
  unfold zeroNC at hb0 hR0 hN0
  obtain ⟨W0, hW0⟩ : ∃ W0, ((w.alloc (.cells #[.int .u8 0, .string ⟨#[]⟩, .slice none 0 0, .slice none 0 0] 44)).alloc (.cells #[.int .u8 91, .string x, .slice none 0 0, .slice none 0 0] 44)) = W0 := ⟨_, rfl⟩
  rw [hW0] at hb0 hR0 hN0 ⊢
  clear hW0 c0 c1
  have HB0 := Lib.hid hb0
  have HR0 := Lib.hid hR0
  have HN0 := Lib.hid hN0
  have hT0' : TokAt W0 W0.heap.size (some ⟨g, 0, none⟩) ts := (HT.out.below hb0 (Nat.le_refl _)).wider hb0.size
  have HI1 := Lib.hid (HIS.out (k + 1) 93 W0 hT0' (by omega))
  rw [show ((k + 1 : Nat) : Int) = (k : Int) + 1 by omega, show ((93 : Nat) : Int) = 93 from rfl] at HI1
  clear hb0 hR0 hN0 hT0'
  refine HI1.out.mono ?_
  rintro e w' ⟨rfl, rfl⟩
  cases he : isK ts (k + 1) 93 with
  | true =>
    have HF : Hid (∀ W, ValR (valI (f + 1) ts k) w.heap.size (.returned (.tuple #[.agg #[.int .u8 91, .string x, .slice none 0 0, .slice none 0 0], .int .i64 ((k : Int) + 2)])) W) := fun W => by
      rw [HV.out, if_pos he, ← HX.out]; exact ⟨_, _, _, _, by rw [show ((k + 2 : Nat) : Int) = (k : Int) + 2 by omega]; rfl, node_leaf _ _ 91 _⟩
    have n0 := HN0.out.cell 0
    have n1 := HN0.out.cell 1
    have n2 := HN0.out.cell 2
    have n3 := HN0.out.cell 3
    have r0 := HR0.out.cell 0
    have r1 := HR0.out.cell 1
    have r2 := HR0.out.cell 2
    have r3 := HR0.out.cell 3
    have f0 := HR0.out.frozen 0
    have f1 := HR0.out.frozen 1
    have f2 := HR0.out.frozen 2
    have f3 := HR0.out.frozen 3
    clear he
    go_wp2_with fail
    have hF := (((HR0.out.set_ 0 (.int .u8 91)).set_ 1 (.string x)).set_ 2 (.slice none 0 0)).set_ 3 (.slice none 0 0)
    have s0 : (World.setCell _ _ _).cell? _ = some (.int .u8 91) := hF.cell 0
    have s1 : (World.setCell _ _ _).cell? _ = some (.string x) := hF.cell 1
    have s2 : (World.setCell _ _ _).cell? _ = some (.slice none 0 0) := hF.cell 2
    have s3 : (World.setCell _ _ _).cell? _ = some (.slice none 0 0) := hF.cell 3
    exact bodyPost_ret (v := .tuple #[.agg #[.int .u8 91, .string x, .slice none 0 0, .slice none 0 0], .int .i64 ((k : Int) + 2)]) (by simp [results, Try.f29, go_sem, s0, s1, s2, s3]) rfl ⟨HF.out _, (((HB0.out.setCell (p := ⟨w.heap.size, 0, none⟩) (Nat.le_refl _) _).setCell (p := ⟨w.heap.size, 1, none⟩) (Nat.le_refl _) _).setCell (p := ⟨w.heap.size, 2, none⟩) (Nat.le_refl _) _).setCell (p := ⟨w.heap.size, 3, none⟩) (Nat.le_refl _) _⟩
  | false =>
    rw [he, if_neg (by simp)] at HV
    have HST : Hid (LoopSt ts false 93 91 x w.heap.size w (fun j => valI f ts j) (valI (f + 1) ts k) t.text k W0) :=
      ⟨⟨ts.length, [], [], .slice none 0 0, .slice none 0 0, [], ⟨HR0.out, HN0.out, World.ownsRow_nil _ _ _ _, World.ownsRow_nil _ _ _ _, by unfold KidsW; rfl, HB0.out⟩, by omega, by simp, by simp, HV.out⟩, by omega⟩
    clear he HI1 HB0 HR0 HN0 HV
    go_wp2_with fail
    go_loopw [1] (fun z wr => ∃ j : Nat, z = .int .i64 j ∧ k ≤ j ∧ LoopSt ts false 93 91 x w.heap.size w (fun j => valI f ts j) (valI (f + 1) ts k) t.text j wr) (fun z _ => 200000 - (intOf z).toNat)
    case atStart => exact ⟨k, rfl, Nat.le_refl _, HST.out⟩
    case round =>
      obtain ⟨j, rfl, hkj, ⟨⟨G, ks, ns, kv, nv, cs, hM, hG, hksl, hnsl, hVj⟩, hjl⟩⟩ := hrel
      clear HST
      have HVj := Lib.hid hVj
      have HM := Lib.hid hM
      clear hVj hM
      have hst := elems_step (val := fun j => valI f ts j) (ts := ts) (map := false) (endk := 93) (fun k hk => valI_out hk) G (j + 1) ks ns hG
      rw [if_neg (fun h => by cases h.1)] at hst
      have hst2 : elems (fun j => valI f ts j) ts false 93 G (j + 1) ks ns = match valI f ts (j + 1) with
          | none => none
          | some (n, k2) => if isK ts k2 93 then some (ks, ns ++ [n], k2 + 1) else if isK ts k2 44 then elems (fun j => valI f ts j) ts false 93 (G - 1) (k2 + 1) ks (ns ++ [n]) else none := hst
      have HST := Lib.hid hst2
      clear hst hst2
      have HM2 := HM
      generalize wr = wx at *
      obtain ⟨o5, m5, c5, rfl⟩ := own_shape HM2.out.hkv
      obtain ⟨o6, m6, c6, rfl⟩ := own_shape HM2.out.hnv
      have hTx : TokAt wx wx.heap.size (some ⟨g, 0, none⟩) ts := (HT.out.below HM2.out.bel (Nat.le_refl _)).wider HM2.out.bel.size
      have hIH := HIH.out (j + 1) wx (by omega) (by omega) hTx
      rw [show ((j + 1 : Nat) : Int) = (j : Int) + 1 by omega] at hIH
      clear hTx
      cases hval : valI f ts (j + 1) with
      | none =>
        have HNo : Hid (valI (f + 1) ts k = none) := by
          show _ = _; rw [HVj.out, HST.out, hval]
        rw [hval] at hIH
        have HIv : Hid (Calls Try.prog 29 #[.slice (some ⟨g, 0, none⟩) ts.length cap, .int .i64 ((j : Int) + 1)] wx fun e w' => e = .returned (.tuple #[.agg #[.int .u8 0, .string ⟨#[]⟩, .slice none 0 0, .slice none 0 0], .int .i64 (-1)]) ∧ Below wx.heap.size wx w') := hIH
        clear hIH hval HST HVj HIH HIS HT HX
        go_wp2_with (go_at_call 29; refine (HIv.out).mono ?_; rintro e w2 ⟨rfl, hb2⟩; have hR3 := (HM2.out.hR.below hb2 HM2.out.hR.lt).alloc (.cells #[.int .u8 0, .string ⟨#[]⟩, .slice none 0 0, .slice none 0 0] 44); have r0 := hR3.cell 0; have r1 := hR3.cell 1; have r2 := hR3.cell 2; have r3 := hR3.cell 3; have f0 := hR3.frozen 0; have f1 := hR3.frozen 1; have f2 := hR3.frozen 2; have f3 := hR3.frozen 3; have hs2 := hb2.size; have hs3 := HM2.out.hR.lt; unfold zeroNC at r0 r1 r2 r3)
        have hB2 := (HM2.out.bel.trans (hb2.mono HM2.out.bel.size)).alloc (by omega) (.cells #[.int .u8 0, .string ⟨#[]⟩, .slice none 0 0, .slice none 0 0] 44)
        have hF := (((hR3.set_ 0 (.int .u8 0)).set_ 1 (.string ⟨#[]⟩)).set_ 2 (.slice none 0 0)).set_ 3 (.slice none 0 0)
        have s0 : (World.setCell _ _ _).cell? _ = some (.int .u8 0) := hF.cell 0
        have s1 : (World.setCell _ _ _).cell? _ = some (.string ⟨#[]⟩) := hF.cell 1
        have s2 : (World.setCell _ _ _).cell? _ = some (.slice none 0 0) := hF.cell 2
        have s3 : (World.setCell _ _ _).cell? _ = some (.slice none 0 0) := hF.cell 3
        exact bodyPost_ret (v := .tuple #[.agg #[.int .u8 0, .string ⟨#[]⟩, .slice none 0 0, .slice none 0 0], .int .i64 (-1)]) (by simp [results, Try.f29, go_sem, s0, s1, s2, s3]) rfl ⟨by rw [HNo.out]; rfl, (((hB2.setCell (p := ⟨w.heap.size, 0, none⟩) (Nat.le_refl _) _).setCell (p := ⟨w.heap.size, 1, none⟩) (Nat.le_refl _) _).setCell (p := ⟨w.heap.size, 2, none⟩) (Nat.le_refl _) _).setCell (p := ⟨w.heap.size, 3, none⟩) (Nat.le_refl _) _⟩
      | some r =>
        obtain ⟨n, k2⟩ := r
        have hbd := valI_bd _ _ _ _ _ hval
        rw [hval] at hIH HST
        dsimp only at HST
        have HIv : Hid (Calls Try.prog 29 #[.slice (some ⟨g, 0, none⟩) ts.length cap, .int .i64 ((j : Int) + 1)] wx fun e w' => (∃ a b c d, e = .returned (.tuple #[.agg #[a, b, c, d], .int .i64 k2]) ∧ NodeW w' (fun g => wx.heap.size ≤ g) n (.agg #[a, b, c, d])) ∧ Below wx.heap.size wx w') := hIH
        clear hIH hval
        obtain ⟨i0, hi, hz0, hz1, hz2⟩ := info_parts infoNode
        have e3 : ns.length + 1 ≤ maxLen := by unfold maxLen; omega
        have e4 : (ns.length + 1) * 72 ≤ 140737488355328 := by omega
        have hk20 : ¬ ((k2 : Int) < 0) := by omega
        have hxs := HM2.out.hN.lt
        go_upto_region 24 with (first | (go_at_call 29; refine (HIv.out).mono ?_; rintro e w2 ⟨⟨a, b, c, d, rfl, hn⟩, hb2⟩; have HN := Lib.hid hn; obtain ⟨u1, u2, u3, u4, u5, u6, u7, u8, rfl, rfl, rfl, rfl⟩ := node_shape hn; clear hn; have hs2 := hb2.size; have HMc := Lib.hid (HM2.out.below hb2); have n2 := (HMc.out.hN.alloc (.cells #[.int .u8 u1, .string u2, .slice u3 u4 u5, .slice u6 u7 u8] 44)).cell 3; have e5 : w.heap.size + 2 ≤ ((w2.alloc (.cells #[.int .u8 u1, .string u2, .slice u3 u4 u5, .slice u6 u7 u8] 44)).alloc (.cells #[.int .u8 u1, .string u2, .slice u3 u4 u5, .slice u6 u7 u8] 44)).heap.size := (by simp; omega); have hNc := (HMc.out.hN.alloc (.cells #[.int .u8 u1, .string u2, .slice u3 u4 u5, .slice u6 u7 u8] 44)).alloc (.cells #[.int .u8 u1, .string u2, .slice u3 u4 u5, .slice u6 u7 u8] 44); have hnc : ((w2.alloc (.cells #[.int .u8 u1, .string u2, .slice u3 u4 u5, .slice u6 u7 u8] 44)).alloc (.cells #[.int .u8 u1, .string u2, .slice u3 u4 u5, .slice u6 u7 u8] 44)).ownsRow (w.heap.size + 2) 44 4 (.slice o6 m6 c6) ns.length cs := (HMc.out.hnv.alloc _).alloc _) | (at_builtin; refine wpList_append_lies _ rfl _ _ 42 rfl (w.heap.size + 2) 44 i0 zeroN 4 72 Try.underlying42 hi hz0 hz1 hz2 rfl (by decide) (.slice o6 m6 c6) ns.length cs rfl hnc ⟨w2.heap.size + 1, 0, none⟩ 1 1 [.int .u8 u1, .string u2, .slice u3 u4 u5, .slice u6 u7 u8] rfl rfl (cells_new1 w2 _ #[.int .u8 u1, .string u2, .slice u3 u4 u5, .slice u6 u7 u8] _) (by simp [Value.oneCell']) (by omega) e3 e4 e5 (w2.heap.size + 2) (by simp) ?_; intro g3 cap3 w3 hown3 hgrow3 hfr3 hlt3; have hN3 := key_box hNc hnc hgrow3; have m3 := hN3.cell 3; have mf := hN3.frozen 3))
        have hM4 := Mid.kid HM2.out HMc.out hs2 HN.out hN3 hown3 hgrow3 hfr3 (by decide)
        obtain ⟨W4, hW4⟩ : ∃ W4, (w3.setCell ⟨w.heap.size + 1, 3, none⟩ (.slice (some ⟨g3, 0, none⟩) (ns.length + 1) cap3)) = W4 := ⟨_, rfl⟩
        rw [hW4] at hM4 ⊢
        clear hW4 hown3 hgrow3 hfr3 hlt3 hN3 m3 mf hnc hNc n2 HMc HN HM2 e5 hs2 hb2 hi hz0 hz1 hz2 HIv HIH HM
        have HM4 := Lib.hid hM4
        clear hM4
        have hTx : TokAt W4 W4.heap.size (some ⟨g, 0, none⟩) ts := (HT.out.below HM4.out.bel (Nat.le_refl _)).wider HM4.out.bel.size
        have HIe := Lib.hid (HIS.out k2 93 W4 hTx (by omega))
        have HIc := Lib.hid (HIS.out k2 44 W4 hTx (by omega))
        rw [show ((93 : Nat) : Int) = 93 from rfl] at HIe
        rw [show ((44 : Nat) : Int) = 44 from rfl] at HIc
        clear hTx HIS HT
        cases hE : isK ts k2 93 with
        | true =>
          rw [if_pos hE] at HST
          rw [hE] at HIe
          have HF : Hid (valI (f + 1) ts k = some (.mk 91 t.text (ks) (ns ++ [n]), k2 + 1)) := by show _ = _; rw [HVj.out, HST.out]
          clear HST HVj hE HIc
          have r0 := HM4.out.hR.cell 0
          have r1 := HM4.out.hR.cell 1
          have r2 := HM4.out.hR.cell 2
          have r3 := HM4.out.hR.cell 3
          have f0 := HM4.out.hR.frozen 0
          have f1 := HM4.out.hR.frozen 1
          have f2 := HM4.out.hR.frozen 2
          have f3 := HM4.out.hR.frozen 3
          unfold zeroNC at r0 r1 r2 r3
          have n0 := HM4.out.hN.cell 0
          have n1 := HM4.out.hN.cell 1
          have n2 := HM4.out.hN.cell 2
          have n3 := HM4.out.hN.cell 3
          go_wp2_with (go_at_call 45; with_reducible refine (HIe.out).mono ?_; rintro e w' ⟨rfl, rfl⟩)
          have hF := (((HM4.out.hR.set_ 0 (.int .u8 91)).set_ 1 (.string x)).set_ 2 (.slice o5 m5 c5)).set_ 3 (.slice (some ⟨g3, 0, none⟩) (ns.length + 1) cap3)
          have s0 : (World.setCell _ _ _).cell? _ = some (.int .u8 91) := hF.cell 0
          have s1 : (World.setCell _ _ _).cell? _ = some (.string x) := hF.cell 1
          have s2 : (World.setCell _ _ _).cell? _ = some (.slice o5 m5 c5) := hF.cell 2
          have s3 : (World.setCell _ _ _).cell? _ = some (.slice (some ⟨g3, 0, none⟩) (ns.length + 1) cap3) := hF.cell 3
          exact bodyPost_ret (v := .tuple #[.agg #[.int .u8 91, .string x, .slice o5 m5 c5, .slice (some ⟨g3, 0, none⟩) (ns.length + 1) cap3], .int .i64 ((k2 : Int) + 1)]) (by simp [results, Try.f29, go_sem, s0, s1, s2, s3]) rfl ⟨by rw [HF.out]; exact ⟨_, _, _, _, by rw [show ((k2 + 1 : Nat) : Int) = (k2 : Int) + 1 by omega]; rfl, HM4.out.node HX.out (fun b hb => far4 _ _ _ _ (by omega)) (by simp [World.setCell])⟩, (((HM4.out.bel.setCell (p := ⟨w.heap.size, 0, none⟩) (Nat.le_refl _) _).setCell (p := ⟨w.heap.size, 1, none⟩) (Nat.le_refl _) _).setCell (p := ⟨w.heap.size, 2, none⟩) (Nat.le_refl _) _).setCell (p := ⟨w.heap.size, 3, none⟩) (Nat.le_refl _) _⟩
        | false =>
          rw [if_neg (by rw [hE]; simp)] at HST
          rw [hE] at HIe
          cases hC : isK ts k2 44 with
          | true =>
            rw [if_pos hC] at HST
            rw [hC] at HIc
            have hk2l := isK_lt hC
            have HL : Hid (LoopSt ts false 93 91 x w.heap.size w (fun j => valI f ts j) (valI (f + 1) ts k) t.text k2 W4) := ⟨⟨G - 1, ks, ns ++ [n], _, _, _, HM4.out, by omega, by first | omega | (simp; omega), by first | omega | (simp; omega), by rw [HVj.out, HST.out]⟩, by omega⟩
            clear HST HVj hE hC HX
            go_wp2_with (first | (go_at_call 45; with_reducible refine (HIe.out).mono ?_; rintro e w' ⟨rfl, rfl⟩) | (go_at_call 45; with_reducible refine (HIc.out).mono ?_; rintro e w' ⟨rfl, rfl⟩))
            go_roundw
            case rel => exact ⟨k2, rfl, by omega, HL.out⟩
            case measure => simp [intOf]; omega
          | false =>
            rw [if_neg (by rw [hC]; simp)] at HST
            rw [hC] at HIc
            have HNo : Hid (valI (f + 1) ts k = none) := by
              show _ = _; rw [HVj.out, HST.out]
            clear HST HVj hE hC HX
            have r0 := HM4.out.hR.cell 0
            have r1 := HM4.out.hR.cell 1
            have r2 := HM4.out.hR.cell 2
            have r3 := HM4.out.hR.cell 3
            have f0 := HM4.out.hR.frozen 0
            have f1 := HM4.out.hR.frozen 1
            have f2 := HM4.out.hR.frozen 2
            have f3 := HM4.out.hR.frozen 3
            unfold zeroNC at r0 r1 r2 r3
            go_wp2_with (first | (go_at_call 45; with_reducible refine (HIe.out).mono ?_; rintro e w' ⟨rfl, rfl⟩) | (go_at_call 45; with_reducible refine (HIc.out).mono ?_; rintro e w' ⟨rfl, rfl⟩))
            have hF := (((HM4.out.hR.set_ 0 (.int .u8 0)).set_ 1 (.string ⟨#[]⟩)).set_ 2 (.slice none 0 0)).set_ 3 (.slice none 0 0)
            have s0 : (World.setCell _ _ _).cell? _ = some (.int .u8 0) := hF.cell 0
            have s1 : (World.setCell _ _ _).cell? _ = some (.string ⟨#[]⟩) := hF.cell 1
            have s2 : (World.setCell _ _ _).cell? _ = some (.slice none 0 0) := hF.cell 2
            have s3 : (World.setCell _ _ _).cell? _ = some (.slice none 0 0) := hF.cell 3
            exact bodyPost_ret (v := .tuple #[.agg #[.int .u8 0, .string ⟨#[]⟩, .slice none 0 0, .slice none 0 0], .int .i64 (-1)]) (by simp [results, Try.f29, go_sem, s0, s1, s2, s3]) rfl ⟨by rw [HNo.out]; rfl, (((HM4.out.bel.setCell (p := ⟨w.heap.size, 0, none⟩) (Nat.le_refl _) _).setCell (p := ⟨w.heap.size, 1, none⟩) (Nat.le_refl _) _).setCell (p := ⟨w.heap.size, 2, none⟩) (Nat.le_refl _) _).setCell (p := ⟨w.heap.size, 3, none⟩) (Nat.le_refl _) _⟩
end Go.Proofs.Ytjnmcadfaombjaa

/- Walks: value, whole (chapter 10). -/
namespace Go.Proofs.Ytjnmcadfaombjaa
open Go.RowKit
set_option linter.unusedVariables false
set_option linter.unusedSimpArgs false
theorem rvalue_any (ts : List Tok) (ao : Option Addr) (cap : Nat) (hl : ts.length ≤ 100000) : ∀ (f k : Nat) (w : World), k ≤ 200000 → ts.length < f + k → TokAt w w.heap.size ao ts →
    Calls Try.prog 29 #[.slice ao ts.length cap, .int .i64 k] w fun e w' => ValR (valI f ts k) w.heap.size e w' ∧ Below w.heap.size w w'
  | 0, k, w, hk, hf, hT => rvalue_out 0 ts ao cap k w hl (by omega) hk
  | f + 1, k, w, hk, hf, hT => by
    rcases Nat.lt_or_ge k ts.length with h | h
    · have ht : ts[k]? = some ts[k] := List.getElem?_eq_getElem h
      generalize ts[k] = t at ht
      by_cases h1 : t.kind = 123
      · exact rvalue_map f ts ao cap k t w hl ht h hT h1 hf (rvalue_any ts ao cap hl f)
      by_cases h2 : t.kind = 91
      · exact rvalue_row f ts ao cap k t w hl ht h hT h2 hf (rvalue_any ts ao cap hl f)
      exact rvalue_leaf f ts ao cap k t w hl ht h hT (by omega)
    · exact rvalue_out (f + 1) ts ao cap k w hl h hk
end Go.Proofs.Ytjnmcadfaombjaa

/- Walks: how deep a node is (chapter 10). -/
namespace Go.Proofs.Ytjnmcadfaombjaa
open Go.RowKit
set_option linter.unusedVariables false
set_option linter.unusedSimpArgs false
mutual
def sizeN : Node → Nat
  | .mk _ _ _ ns => sizeL ns + 1
def sizeL : List Node → Nat
  | [] => 0
  | n :: ns => sizeN n + sizeL ns
end
theorem sizeL_mem : ∀ (ns : List Node) (j : Nat) (n : Node), ns[j]? = some n → sizeN n ≤ sizeL ns
  | [], j, n, h => by simp at h
  | m :: ns, 0, n, h => by simp at h; subst h; unfold sizeL; omega
  | m :: ns, j + 1, n, h => by
    have := sizeL_mem ns j n (by simpa using h)
    unfold sizeL; omega
theorem sizeN_pos (n : Node) : 1 ≤ sizeN n := by cases n; unfold sizeN; omega
theorem sizeL_length : ∀ (ns : List Node), ns.length ≤ sizeL ns
  | [] => by simp
  | n :: ns => by have := sizeL_length ns; have := sizeN_pos n; unfold sizeL; simp; omega
theorem sizeL_snoc (n : Node) : ∀ (ns : List Node), sizeL (ns ++ [n]) = sizeL ns + sizeN n
  | [] => by simp [sizeL]
  | m :: ns => by rw [List.cons_append]; unfold sizeL; rw [sizeL_snoc n ns]; omega
mutual
theorem deep_le_size : ∀ (n : Node), deepN n ≤ sizeN n
  | .mk _ _ _ ns => by unfold deepN sizeN; have := deepL_le_size ns; omega
theorem deepL_le_size : ∀ (ns : List Node), deepL ns ≤ sizeL ns
  | [] => by unfold deepL sizeL; omega
  | n :: ns => by unfold deepL sizeL; have := deep_le_size n; have := deepL_le_size ns; omega
end
theorem deepL_snoc (n : Node) : ∀ (ns : List Node), deepL (ns ++ [n]) = max (deepL ns) (deepN n)
  | [] => by simp [deepL]
  | m :: ns => by rw [List.cons_append]; unfold deepL; rw [deepL_snoc n ns]; omega
theorem deepL_take : ∀ (i : Nat) (ns : List Node) (n : Node), ns[i]? = some n → deepL (ns.take (i + 1)) = max (deepL (ns.take i)) (deepN n) := by
  intro i ns n h
  rw [List.take_add_one, h]
  exact deepL_snoc n _
theorem deepL_take_le : ∀ (i : Nat) (ns : List Node), deepL (ns.take i) ≤ deepL ns
  | 0, ns => by simp [deepL]
  | i + 1, [] => by simp [deepL]
  | i + 1, n :: ns => by rw [List.take_succ_cons]; unfold deepL; have := deepL_take_le i ns; omega
theorem row_len {w : World} {ok : Nat → Prop} {v : Value} {n : Nat} {xs : List Value} (h : RowW w ok v n xs) : ∃ o c, v = .slice o n c := by
  rcases h with ⟨rfl, rfl, _⟩ | ⟨g, cap, rfl, _⟩
  · exact ⟨_, _, rfl⟩
  · exact ⟨_, _, rfl⟩
theorem row_at {w : World} {ok : Nat → Prop} {o : Option Addr} {n m c : Nat} {xs : List Value} (h : RowW w ok (.slice o m c) n xs) {j : Nat} {u : Value} (hu : xs[j]? = some u) : ∃ g, o = some ⟨g, 0, none⟩ ∧ g < w.heap.size ∧ ∀ m u, xs[m]? = some u → w.cell? ⟨g, m, none⟩ = some u := by
  rcases h with ⟨_, _, rfl⟩ | ⟨g, cap, hv, _, hl, hc⟩
  · simp at hu
  · cases hv; exact ⟨g, rfl, hl, hc⟩
set_option maxRecDepth 100000 in
set_option maxHeartbeats 4000000 in
theorem rdeep_any : ∀ (d : Nat) (n : Node) (ok : Nat → Prop) (v : Value) (w : World), sizeN n ≤ d → d ≤ 1000000 → NodeW w ok n v →
    Calls Try.prog 30 #[v] w fun e w' => e = .returned (.int .i64 (deepN n)) ∧ Below w.heap.size w w'
  | 0, n, ok, v, w, hd, _, _ => by have := sizeN_pos n; omega
  | d + 1, .mk q t ks ns, ok, v, w, hd, hd2, hn => by
    have HIH := Lib.hid (rdeep_any d)
    unfold NodeW at hn
    obtain ⟨kv, nv, cs, rfl, h1, h2, h3⟩ := hn
    obtain ⟨o1, m1, c1, rfl⟩ := row_shape h1
    obtain ⟨o2, c2, rfl⟩ := row_len h2
    have HR := Lib.hid h2
    have HK := Lib.hid h3
    have HD : Hid (deepN (.mk q t ks ns) = deepL ns + 1) := by show _ = _; unfold deepN; rfl
    have hsz : sizeL ns ≤ d := by unfold sizeN at hd; omega
    have hln := sizeL_length ns
    have hdl := deepL_le_size ns
    generalize strOf t = x at *
    clear h1 h2 h3 hd
    go_enter Try.func30, Try.ntmps30
    go_wp2_with fail
    have HB0 : Hid (Blk (w.alloc (.cells #[.int .u8 q, .string x, .slice o1 m1 c1, .slice o2 ns.length c2] 44)) w.heap.size 44 #[.int .u8 q, .string x, .slice o1 m1 c1, .slice o2 ns.length c2]) := Blk.new w _ _
    go_loopw [3, 4] (fun y z wr => ∃ i : Nat, z = .int .i64 i ∧ y = .int .i64 (deepL (ns.take i)) ∧ i ≤ ns.length ∧ Below w.heap.size w wr ∧ Blk wr w.heap.size 44 #[.int .u8 q, .string x, .slice o1 m1 c1, .slice o2 ns.length c2]) (fun _ z _ => ns.length - (intOf z).toNat)
    case atStart => exact ⟨0, rfl, by simp [deepL], Nat.zero_le _, (Below.refl _ w).alloc (Nat.le_refl _) _, HB0.out⟩
    case round =>
      obtain ⟨i, rfl, rfl, hi, hb, hB⟩ := hrel
      clear HB0
      have n3 := hB.cell 3
      have hdt := deepL_take_le i ns
      by_cases hlt : i < ns.length
      · obtain ⟨n, hn⟩ : ∃ n, ns[i]? = some n := ⟨_, List.getElem?_eq_getElem hlt⟩
        obtain ⟨a, b, c, e, k0, k1, k2, k3, hN⟩ := KidsW.at ns cs i n HK.out hn
        obtain ⟨g, rfl, hg, hc⟩ := row_at HR.out k0
        have x0 := (hb.cell (p := ⟨g, i * 4, none⟩) hg).trans (hc _ _ k0)
        have x1 := (hb.cell (p := ⟨g, i * 4 + 1, none⟩) hg).trans (hc _ _ k1)
        have x2 := (hb.cell (p := ⟨g, i * 4 + 2, none⟩) hg).trans (hc _ _ k2)
        have x3 := (hb.cell (p := ⟨g, i * 4 + 3, none⟩) hg).trans (hc _ _ k3)
        have hsn := sizeL_mem ns i n hn
        have hdn := deep_le_size n
        have HI := Lib.hid (HIH.out n ok _ wr (by omega) (by omega) (NodeW.mono (fun g hg hl => ⟨hg, by have := hb.size; omega, hb.block g hl⟩) n _ hN))
        have HT := Lib.hid (deepL_take i ns n hn)
        have hmx : max ((deepL (ns.take i) : Nat) : Int) ((deepN n : Nat) : Int) = ((deepL (ns.take (i + 1)) : Nat) : Int) := by rw [HT.out]; omega
        have HMX := Lib.hid hmx
        have hBl := hB.lt
        have a1 : (i : Int) < ns.length := by omega
        clear hn k0 k1 k2 k3 hN hc hmx HK HR HIH
        go_wp2_with (go_at_call 30; refine (HI.out).mono ?_; rintro e w2 ⟨rfl, hb2⟩)
        go_roundw
        case rel => exact ⟨i + 1, by go_num, by rw [← HMX.out], hlt, hb.trans (hb2.mono hb.size), hB.below hb2 hBl⟩
        case measure => simp [intOf]; omega
      · have hE : ns.take i = ns := List.take_of_length_le (by omega)
        rw [hE] at hdt ⊢
        have a1 : ¬ ((i : Int) < ns.length) := by omega
        clear HK HR HIH
        go_wp2_with fail
        go_ret
        exact ⟨by rw [HD.out]; congr 2, hb⟩
end Go.Proofs.Ytjnmcadfaombjaa

/- Plain: how great a node is; tokens in memory (chapter 10). -/
namespace Go.Proofs.Ytjnmcadfaombjaa
open Go.RowKit
set_option linter.unusedVariables false
set_option linter.unusedSimpArgs false
theorem elems_size {val : Nat → Option (Node × Nat)} {ts : List Tok} {map : Bool} {endk : Nat} (hv : ∀ k n k2, val k = some (n, k2) → sizeN n + k ≤ k2) :
    ∀ (g k : Nat) (ks : List (List UInt8)) (ns : List Node) (ks' : List (List UInt8)) (ns' : List Node) (k' : Nat), elems val ts map endk g k ks ns = some (ks', ns', k') → sizeL ns' + k ≤ sizeL ns + k'
  | 0, k, ks, ns, ks', ns', k', h => by cases h
  | g + 1, k, ks, ns, ks', ns', k', h => by
    unfold elems at h
    split at h
    · cases h
    · split at h
      · cases h
      · rename_i n k2 hval
        have h1 := hv _ _ _ hval
        have h3 : sizeN n + k ≤ k2 := by cases map <;> simp at h1 <;> omega
        split at h
        · simp only [Option.some.injEq, Prod.mk.injEq] at h
          obtain ⟨_, rfl, rfl⟩ := h
          rw [sizeL_snoc]; omega
        · split at h
          · have h2 := elems_size hv g _ _ _ _ _ _ h
            rw [sizeL_snoc] at h2; omega
          · cases h
theorem valI_size : ∀ (f : Nat) (ts : List Tok) (k : Nat) (n : Node) (k2 : Nat), valI f ts k = some (n, k2) → sizeN n + k ≤ k2
  | 0, ts, k, n, k2, h => by cases h
  | f + 1, ts, k, n, k2, h => by
    rcases Nat.lt_or_ge k ts.length with hk | hk
    · have ht : ts[k]? = some ts[k] := List.getElem?_eq_getElem hk
      rw [valI_at ht] at h
      generalize ts[k] = t at *
      by_cases q1 : t.kind = 34 ∨ t.kind = 48 ∨ t.kind = 97
      · rw [if_pos q1] at h
        simp only [Option.some.injEq, Prod.mk.injEq] at h
        obtain ⟨rfl, rfl⟩ := h
        simp only [sizeN, sizeL]; omega
      rw [if_neg q1] at h
      by_cases q2 : t.kind ≠ 91 ∧ t.kind ≠ 123
      · rw [if_pos q2] at h; cases h
      rw [if_neg q2] at h
      by_cases q3 : isK ts (k + 1) (if t.kind = 123 then 125 else 93) = true
      · rw [if_pos q3] at h
        simp only [Option.some.injEq, Prod.mk.injEq] at h
        obtain ⟨rfl, rfl⟩ := h
        simp only [sizeN, sizeL]; omega
      rw [if_neg q3] at h
      cases he : elems (fun j => valI f ts j) ts (decide (t.kind = 123)) (if t.kind = 123 then 125 else 93) ts.length (k + 1) [] [] with
      | none => rw [he] at h; cases h
      | some r =>
        obtain ⟨ks, ns, k3⟩ := r
        rw [he] at h
        have h2 := elems_size (fun k n k2 h => valI_size f ts k n k2 h) _ _ _ _ _ _ _ he
        simp only [Option.some.injEq, Prod.mk.injEq] at h
        obtain ⟨rfl, rfl⟩ := h
        simp only [sizeN, sizeL] at h2 ⊢; omega
    · rw [valI, List.getElem?_eq_none hk] at h; cases h
theorem toksF_len : ∀ (f : Nat) (l : List UInt8) (k : Nat) (ts : List Tok), toksF f l k = some ts → ts.length ≤ l.length - k
  | 0, l, k, ts, h => by unfold toksF at h; cases h; simp
  | f + 1, l, k, ts, h => by
    unfold toksF at h
    split at h
    · cases h; simp
    · split at h
      · have := toksF_len f l (k + 1) ts h; omega
      · split at h
        · cases h
        · rename_i h1 h2 t ho
          have hb := oneT_bd (by omega) ho
          cases hr : toksF f l t.to with
          | none => rw [hr] at h; cases h
          | some r =>
            rw [hr] at h
            cases h
            have := toksF_len f l t.to r hr
            simp; omega
theorem toks_len {l : List UInt8} {ts : List Tok} (h : toks l = some ts) : ts.length ≤ l.length := by
  have := toksF_len _ _ _ _ h; omega
theorem tok_row {w : World} {B : Nat} {v : Value} {ts : List Tok} (h : w.ownsRow B 32 4 v ts.length (tokCs ts)) : ∃ ao cap, v = .slice ao ts.length cap ∧ TokAt w w.heap.size ao ts := by
  have hr := RowW.own (ok := fun _ => True) h (fun _ _ _ => trivial)
  rcases hr with ⟨rfl, h0, _⟩ | ⟨g, cap, rfl, _, hl, hc⟩
  · have : ts = [] := List.length_eq_zero_iff.1 h0
    subst this
    exact ⟨none, 0, rfl, .inl rfl⟩
  · exact ⟨_, cap, rfl, .inr ⟨g, rfl, hl, hc⟩⟩
def ParR (o : Except Nat Node) (B : Nat) (e : Ending) (W : World) : Prop := match o with
  | .error c => e = .returned (.tuple #[zeroN, .int .i64 c])
  | .ok n => ∃ a b c d, e = .returned (.tuple #[.agg #[a, b, c, d], .int .i64 0]) ∧ NodeW W (fun g => B ≤ g) n (.agg #[a, b, c, d])
end Go.Proofs.Ytjnmcadfaombjaa

/- Walks: the document's Parse (chapter 10). -/
namespace Go.Proofs.Ytjnmcadfaombjaa
open Go.RowKit
set_option linter.unusedVariables false
set_option linter.unusedSimpArgs false
theorem node_alloc {w : World} {B : Nat} {n : Node} {v : Value} (o : Obj) (h : NodeW w (fun g => B ≤ g) n v) : NodeW (w.alloc o) (fun g => B ≤ g) n v :=
  NodeW.mono (fun g hg hl => ⟨hg, by simp; omega, Below.heap_alloc w o g hl⟩) n v h
set_option maxRecDepth 100000 in
set_option maxHeartbeats 8000000 in
theorem rparse_any (s : ByteArray) (w : World) (hs : s.size ≤ 100000) :
    Calls Try.prog 14 #[.string s] w fun e w' => ParR (parseJ s.data.toList) w.heap.size e w' ∧ Below w.heap.size w w' := by
  have HTk := Lib.hid (fun w => rtokens_any s w hs)
  have hl : s.data.toList.length = s.size := (sz_len s).symm
  have hR := Blk.new w 44 zeroNC
  have hb1 : Below w.heap.size w (w.alloc (.cells zeroNC 44)) := (Below.refl _ w).alloc (Nat.le_refl _) _
  unfold zeroNC at hR hb1
  have hRl := hR.lt
  cases htk : toks s.data.toList with
  | none =>
    have HP : Hid (parseJ s.data.toList = .error 7) := by show _ = _; unfold parseJ; rw [htk]
    rw [htk] at HTk
    have HT2 : Hid (∀ w, Calls Try.prog 10 #[.string s] w fun e w' => e = .returned (.tuple #[.slice none 0 0, .int .i64 7]) ∧ Below w.heap.size w w') := HTk
    clear HTk htk hl
    have HR := Lib.hid hR
    have HB1 := Lib.hid hb1
    clear hR hb1
    go_enter Try.func14, Try.ntmps14
    go_wp2_with (go_at_call 10; refine (HT2.out _).mono ?_; rintro e w2 ⟨rfl, hb2⟩; have hR2 := HR.out.below hb2 hRl; have r0 := hR2.cell 0; have r1 := hR2.cell 1; have r2 := hR2.cell 2; have r3 := hR2.cell 3; have f0 := hR2.frozen 0; have f1 := hR2.frozen 1; have f2 := hR2.frozen 2; have f3 := hR2.frozen 3)
    have hB2 := HB1.out.trans (hb2.mono (Nat.le_of_lt hRl))
    have hF := (((hR2.set_ 0 (.int .u8 0)).set_ 1 (.string ⟨#[]⟩)).set_ 2 (.slice none 0 0)).set_ 3 (.slice none 0 0)
    have s0 : (World.setCell _ _ _).cell? _ = some (.int .u8 0) := hF.cell 0
    have s1 : (World.setCell _ _ _).cell? _ = some (.string ⟨#[]⟩) := hF.cell 1
    have s2 : (World.setCell _ _ _).cell? _ = some (.slice none 0 0) := hF.cell 2
    have s3 : (World.setCell _ _ _).cell? _ = some (.slice none 0 0) := hF.cell 3
    exact bodyPost_ret (v := .tuple #[.agg #[.int .u8 0, .string ⟨#[]⟩, .slice none 0 0, .slice none 0 0], .int .i64 7]) (by simp [results, Try.f14, go_sem, s0, s1, s2, s3]) rfl ⟨by rw [HP.out]; rfl, (((hB2.setCell (p := ⟨w.heap.size, 0, none⟩) (Nat.le_refl _) _).setCell (p := ⟨w.heap.size, 1, none⟩) (Nat.le_refl _) _).setCell (p := ⟨w.heap.size, 2, none⟩) (Nat.le_refl _) _).setCell (p := ⟨w.heap.size, 3, none⟩) (Nat.le_refl _) _⟩
  | some ts =>
    have hlen := toks_len htk
    rw [htk] at HTk
    have HT2 : Hid (∀ w, Calls Try.prog 10 #[.string s] w fun e w' => (∃ v, e = .returned (.tuple #[v, .int .i64 0]) ∧ w'.ownsRow w.heap.size 32 4 v ts.length (tokCs ts)) ∧ Below w.heap.size w w') := HTk
    have HPJ : Hid (parseJ s.data.toList = match val ts with
      | none => .error 7
      | some (n, k) => if k = ts.length then (if 32 < deepN n then .error 8 else .ok n) else .error 7) := by show _ = _; unfold parseJ; rw [htk]; rfl
    have HVl := Lib.hid (fun ao cap w h => rvalue_any ts ao cap (by omega) (ts.length + 1) 0 w (by omega) (by omega) h)
    clear HTk htk
    have HR := Lib.hid hR
    have HB1 := Lib.hid hb1
    clear hR hb1
    cases hv : val ts with
    | none =>
      have HP : Hid (parseJ s.data.toList = .error 7) := by show _ = _; rw [HPJ.out, hv]
      have hv2 : valI (ts.length + 1) ts 0 = none := hv
      rw [hv2] at HVl
      have HV2 : Hid (∀ ao cap w, TokAt w w.heap.size ao ts → Calls Try.prog 29 #[.slice ao ts.length cap, .int .i64 0] w fun e w' => e = .returned (.tuple #[.agg #[.int .u8 0, .string ⟨#[]⟩, .slice none 0 0, .slice none 0 0], .int .i64 (-1)]) ∧ Below w.heap.size w w') := HVl
      clear HVl HPJ hv hv2
      have d1 : ((-1 : Int) != (ts.length : Int)) = true := by simp only [bne_iff_ne]; omega
      go_enter Try.func14, Try.ntmps14
      go_wp2_with (first | (go_at_call 10; refine (HT2.out _).mono ?_; rintro e w2 ⟨⟨v, rfl, hown⟩, hb2⟩; obtain ⟨ao, cap, rfl, hT⟩ := tok_row hown; clear hown) | (go_at_call 29; refine (HV2.out _ _ _ hT).mono ?_; rintro e w3 ⟨rfl, hb3⟩; have hb4 := hb2.trans (hb3.mono hb2.size); have hR3 := (HR.out.below hb4 hRl).alloc (.cells #[.int .u8 0, .string ⟨#[]⟩, .slice none 0 0, .slice none 0 0] 44); have r0 := hR3.cell 0; have r1 := hR3.cell 1; have r2 := hR3.cell 2; have r3 := hR3.cell 3; have f0 := hR3.frozen 0; have f1 := hR3.frozen 1; have f2 := hR3.frozen 2; have f3 := hR3.frozen 3; have hs4 := hb4.size))
      have hB2 := (HB1.out.trans (hb4.mono (Nat.le_of_lt hRl))).alloc (by omega) (.cells #[.int .u8 0, .string ⟨#[]⟩, .slice none 0 0, .slice none 0 0] 44)
      have hF := (((hR3.set_ 0 (.int .u8 0)).set_ 1 (.string ⟨#[]⟩)).set_ 2 (.slice none 0 0)).set_ 3 (.slice none 0 0)
      have s0 : (World.setCell _ _ _).cell? _ = some (.int .u8 0) := hF.cell 0
      have s1 : (World.setCell _ _ _).cell? _ = some (.string ⟨#[]⟩) := hF.cell 1
      have s2 : (World.setCell _ _ _).cell? _ = some (.slice none 0 0) := hF.cell 2
      have s3 : (World.setCell _ _ _).cell? _ = some (.slice none 0 0) := hF.cell 3
      exact bodyPost_ret (v := .tuple #[.agg #[.int .u8 0, .string ⟨#[]⟩, .slice none 0 0, .slice none 0 0], .int .i64 7]) (by simp [results, Try.f14, go_sem, s0, s1, s2, s3]) rfl ⟨by rw [HP.out]; rfl, (((hB2.setCell (p := ⟨w.heap.size, 0, none⟩) (Nat.le_refl _) _).setCell (p := ⟨w.heap.size, 1, none⟩) (Nat.le_refl _) _).setCell (p := ⟨w.heap.size, 2, none⟩) (Nat.le_refl _) _).setCell (p := ⟨w.heap.size, 3, none⟩) (Nat.le_refl _) _⟩
    | some r =>
      obtain ⟨n, k⟩ := r
      have hv2 : valI (ts.length + 1) ts 0 = some (n, k) := hv
      have hbd := valI_bd _ _ _ _ _ hv2
      have hsz := valI_size _ _ _ _ _ hv2
      have hdn := deep_le_size n
      rw [hv2] at HVl
      rw [hv] at HPJ
      dsimp only at HPJ
      have HV2 : Hid (∀ ao cap w, TokAt w w.heap.size ao ts → Calls Try.prog 29 #[.slice ao ts.length cap, .int .i64 0] w fun e w' => (∃ a b c d, e = .returned (.tuple #[.agg #[a, b, c, d], .int .i64 k]) ∧ NodeW w' (fun g => w.heap.size ≤ g) n (.agg #[a, b, c, d])) ∧ Below w.heap.size w w') := HVl
      have HD := Lib.hid (fun w (v : Value) (B : Nat) (h : NodeW w (fun g => B ≤ g) n v) => rdeep_any (sizeN n) n _ v w (Nat.le_refl _) (by omega) h)
      clear HVl hv hv2
      by_cases hk : k = ts.length
      · rw [if_pos hk] at HPJ
        have d1 : ((k : Int) != (ts.length : Int)) = false := by simp only [bne_eq_false_iff_eq]; omega
        by_cases h32 : 32 < deepN n
        · rw [if_pos h32] at HPJ
          have d2 : (32 : Int) < (deepN n : Int) := by omega
          clear hk hbd hsz hl
          go_enter Try.func14, Try.ntmps14
          go_wp2_with (first | (go_at_call 10; refine (HT2.out _).mono ?_; rintro e w2 ⟨⟨v, rfl, hown⟩, hb2⟩; obtain ⟨ao, cap, rfl, hT⟩ := tok_row hown; clear hown) | (go_at_call 29; refine (HV2.out _ _ _ hT).mono ?_; rintro e w3 ⟨⟨a, b, c, d, rfl, hn⟩, hb3⟩; have HN := Lib.hid hn; obtain ⟨u1, u2, u3, u4, u5, u6, u7, u8, rfl, rfl, rfl, rfl⟩ := node_shape hn; clear hn; have hs2 := hb2.size; have hs3 := hb3.size; have hb4 := hb2.trans (hb3.mono hb2.size); have HR3 := Lib.hid ((HR.out.below hb4 hRl).alloc (.cells #[.int .u8 u1, .string u2, .slice u3 u4 u5, .slice u6 u7 u8] 44)); have HN5 := Lib.hid (node_alloc (.cells #[.int .u8 u1, .string u2, .slice u3 u4 u5, .slice u6 u7 u8] 44) HN.out)) | (go_at_call 30; refine (HD.out _ _ _ HN5.out).mono ?_; rintro e w5 ⟨rfl, hb5⟩; have hR3 := HR3.out.below hb5 HR3.out.lt; have r0 := hR3.cell 0; have r1 := hR3.cell 1; have r2 := hR3.cell 2; have r3 := hR3.cell 3; have f0 := hR3.frozen 0; have f1 := hR3.frozen 1; have f2 := hR3.frozen 2; have f3 := hR3.frozen 3; have hK := (Blk.new w3 44 #[.int .u8 u1, .string u2, .slice u3 u4 u5, .slice u6 u7 u8]).below hb5 (by simp); have m0 := hK.cell 0; have m1 := hK.cell 1; have m2 := hK.cell 2; have m3 := hK.cell 3))
          have hB2 := ((HB1.out.trans (hb4.mono (Nat.le_of_lt hRl))).alloc (by have := hb4.size; omega) (.cells #[.int .u8 u1, .string u2, .slice u3 u4 u5, .slice u6 u7 u8] 44)).trans (hb5.mono (by have := hb4.size; simp; omega))
          have hF := (((hR3.set_ 0 (.int .u8 0)).set_ 1 (.string ⟨#[]⟩)).set_ 2 (.slice none 0 0)).set_ 3 (.slice none 0 0)
          have s0 : (World.setCell _ _ _).cell? _ = some (.int .u8 0) := hF.cell 0
          have s1 : (World.setCell _ _ _).cell? _ = some (.string ⟨#[]⟩) := hF.cell 1
          have s2 : (World.setCell _ _ _).cell? _ = some (.slice none 0 0) := hF.cell 2
          have s3 : (World.setCell _ _ _).cell? _ = some (.slice none 0 0) := hF.cell 3
          exact bodyPost_ret (v := .tuple #[.agg #[.int .u8 0, .string ⟨#[]⟩, .slice none 0 0, .slice none 0 0], .int .i64 8]) (by simp [results, Try.f14, go_sem, s0, s1, s2, s3]) rfl ⟨by rw [HPJ.out]; rfl, (((hB2.setCell (p := ⟨w.heap.size, 0, none⟩) (Nat.le_refl _) _).setCell (p := ⟨w.heap.size, 1, none⟩) (Nat.le_refl _) _).setCell (p := ⟨w.heap.size, 2, none⟩) (Nat.le_refl _) _).setCell (p := ⟨w.heap.size, 3, none⟩) (Nat.le_refl _) _⟩
        · rw [if_neg h32] at HPJ
          have d2 : ¬ ((32 : Int) < (deepN n : Int)) := by omega
          clear hk hbd hsz hl
          go_enter Try.func14, Try.ntmps14
          go_wp2_with (first | (go_at_call 10; refine (HT2.out _).mono ?_; rintro e w2 ⟨⟨v, rfl, hown⟩, hb2⟩; obtain ⟨ao, cap, rfl, hT⟩ := tok_row hown; clear hown) | (go_at_call 29; refine (HV2.out _ _ _ hT).mono ?_; rintro e w3 ⟨⟨a, b, c, d, rfl, hn⟩, hb3⟩; have HN := Lib.hid hn; obtain ⟨u1, u2, u3, u4, u5, u6, u7, u8, rfl, rfl, rfl, rfl⟩ := node_shape hn; clear hn; have hs2 := hb2.size; have hs3 := hb3.size; have hb4 := hb2.trans (hb3.mono hb2.size); have HR3 := Lib.hid ((HR.out.below hb4 hRl).alloc (.cells #[.int .u8 u1, .string u2, .slice u3 u4 u5, .slice u6 u7 u8] 44)); have HN5 := Lib.hid (node_alloc (.cells #[.int .u8 u1, .string u2, .slice u3 u4 u5, .slice u6 u7 u8] 44) HN.out)) | (go_at_call 30; refine (HD.out _ _ _ HN5.out).mono ?_; rintro e w5 ⟨rfl, hb5⟩; have hR3 := HR3.out.below hb5 HR3.out.lt; have r0 := hR3.cell 0; have r1 := hR3.cell 1; have r2 := hR3.cell 2; have r3 := hR3.cell 3; have f0 := hR3.frozen 0; have f1 := hR3.frozen 1; have f2 := hR3.frozen 2; have f3 := hR3.frozen 3; have hK := (Blk.new w3 44 #[.int .u8 u1, .string u2, .slice u3 u4 u5, .slice u6 u7 u8]).below hb5 (by simp); have m0 := hK.cell 0; have m1 := hK.cell 1; have m2 := hK.cell 2; have m3 := hK.cell 3))
          have hB2 := ((HB1.out.trans (hb4.mono (Nat.le_of_lt hRl))).alloc (by have := hb4.size; omega) (.cells #[.int .u8 u1, .string u2, .slice u3 u4 u5, .slice u6 u7 u8] 44)).trans (hb5.mono (by have := hb4.size; simp; omega))
          have hF := (((hR3.set_ 0 (.int .u8 u1)).set_ 1 (.string u2)).set_ 2 (.slice u3 u4 u5)).set_ 3 (.slice u6 u7 u8)
          have s0 : (World.setCell _ _ _).cell? _ = some (.int .u8 u1) := hF.cell 0
          have s1 : (World.setCell _ _ _).cell? _ = some (.string u2) := hF.cell 1
          have s2 : (World.setCell _ _ _).cell? _ = some (.slice u3 u4 u5) := hF.cell 2
          have s3 : (World.setCell _ _ _).cell? _ = some (.slice u6 u7 u8) := hF.cell 3
          exact bodyPost_ret (v := .tuple #[.agg #[.int .u8 u1, .string u2, .slice u3 u4 u5, .slice u6 u7 u8], .int .i64 0]) (by simp [results, Try.f14, go_sem, s0, s1, s2, s3]) rfl ⟨by rw [HPJ.out]; exact ⟨_, _, _, _, rfl, NodeW.mono (fun g hg hl => ⟨by omega, by have := hb5.size; simp at this; simp [World.setCell]; omega, by rw [far4 _ _ _ _ (by omega)]; exact (hb5.block g (by simp; omega)).trans (Below.heap_alloc w3 _ g hl)⟩) n _ HN.out⟩, (((hB2.setCell (p := ⟨w.heap.size, 0, none⟩) (Nat.le_refl _) _).setCell (p := ⟨w.heap.size, 1, none⟩) (Nat.le_refl _) _).setCell (p := ⟨w.heap.size, 2, none⟩) (Nat.le_refl _) _).setCell (p := ⟨w.heap.size, 3, none⟩) (Nat.le_refl _) _⟩
      · rw [if_neg hk] at HPJ
        have d1 : ((k : Int) != (ts.length : Int)) = true := by simp only [bne_iff_ne]; omega
        clear hk hbd hsz hl HD
        go_enter Try.func14, Try.ntmps14
        go_wp2_with (first | (go_at_call 10; refine (HT2.out _).mono ?_; rintro e w2 ⟨⟨v, rfl, hown⟩, hb2⟩; obtain ⟨ao, cap, rfl, hT⟩ := tok_row hown; clear hown) | (go_at_call 29; refine (HV2.out _ _ _ hT).mono ?_; rintro e w3 ⟨⟨a, b, c, d, rfl, hn⟩, hb3⟩; have HN := Lib.hid hn; obtain ⟨u1, u2, u3, u4, u5, u6, u7, u8, rfl, rfl, rfl, rfl⟩ := node_shape hn; clear hn; have hs2 := hb2.size; have hs3 := hb3.size; have hb4 := hb2.trans (hb3.mono hb2.size); have hR3 := (HR.out.below hb4 hRl).alloc (.cells #[.int .u8 u1, .string u2, .slice u3 u4 u5, .slice u6 u7 u8] 44); have r0 := hR3.cell 0; have r1 := hR3.cell 1; have r2 := hR3.cell 2; have r3 := hR3.cell 3; have f0 := hR3.frozen 0; have f1 := hR3.frozen 1; have f2 := hR3.frozen 2; have f3 := hR3.frozen 3))
        have hB2 := (HB1.out.trans (hb4.mono (Nat.le_of_lt hRl))).alloc (by have := hb4.size; omega) (.cells #[.int .u8 u1, .string u2, .slice u3 u4 u5, .slice u6 u7 u8] 44)
        have hF := (((hR3.set_ 0 (.int .u8 0)).set_ 1 (.string ⟨#[]⟩)).set_ 2 (.slice none 0 0)).set_ 3 (.slice none 0 0)
        have s0 : (World.setCell _ _ _).cell? _ = some (.int .u8 0) := hF.cell 0
        have s1 : (World.setCell _ _ _).cell? _ = some (.string ⟨#[]⟩) := hF.cell 1
        have s2 : (World.setCell _ _ _).cell? _ = some (.slice none 0 0) := hF.cell 2
        have s3 : (World.setCell _ _ _).cell? _ = some (.slice none 0 0) := hF.cell 3
        exact bodyPost_ret (v := .tuple #[.agg #[.int .u8 0, .string ⟨#[]⟩, .slice none 0 0, .slice none 0 0], .int .i64 7]) (by simp [results, Try.f14, go_sem, s0, s1, s2, s3]) rfl ⟨by rw [HPJ.out]; rfl, (((hB2.setCell (p := ⟨w.heap.size, 0, none⟩) (Nat.le_refl _) _).setCell (p := ⟨w.heap.size, 1, none⟩) (Nat.le_refl _) _).setCell (p := ⟨w.heap.size, 2, none⟩) (Nat.le_refl _) _).setCell (p := ⟨w.heap.size, 3, none⟩) (Nat.le_refl _) _⟩
end Go.Proofs.Ytjnmcadfaombjaa
