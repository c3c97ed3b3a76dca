/- Plain: what is written of a post is read back. -/
import Derived.Test.YtdmlciebkilmjaaChatD
namespace Go.Proofs.Ytdmlciebkilmjaa
set_option linter.unusedVariables false
set_option linter.unusedSimpArgs false
def encs (ms : List Nat) : List UInt8 := ms.flatMap fun m : Nat => enc (m : Int)
def mild (m : Nat) : Prop := shownN m = m ∧ m ≠ 13
theorem encs_nil : encs [] = [] := rfl
theorem encs_cons (m : Nat) (ms : List Nat) : encs (m :: ms) = enc (m : Int) ++ encs ms := by unfold encs; rw [List.flatMap_cons]
theorem encs_append (a b : List Nat) : encs (a ++ b) = encs a ++ encs b := by unfold encs; rw [List.flatMap_append]
theorem clean_form (l : List UInt8) : ∃ ms, clean l = encs ms ∧ ∀ m ∈ ms, mild m :=
  clean_ind (P := fun _ t => ∃ ms, t = encs ms ∧ ∀ m ∈ ms, mild m) ⟨[], rfl, fun m h => by cases h⟩ (fun _ _ h _ => h)
    (fun _ t m h1 h2 ⟨ms, h3, h4⟩ _ => ⟨m :: ms, by rw [encs_cons, h3], fun x hx => by
      rcases List.mem_cons.1 hx with rfl | hx
      · exact ⟨h1, h2⟩
      · exact h4 x hx⟩) _ l (Nat.le_refl _)
theorem clean_encs : ∀ ms : List Nat, (∀ m ∈ ms, mild m) → clean (encs ms) = encs ms
  | [], _ => clean_nil
  | m :: ms, h => by
    rw [encs_cons, clean_enc m _ (h m (by simp)).1 (h m (by simp)).2, clean_encs ms (fun x hx => h x (by simp [hx]))]
theorem good_encs : ∀ ms : List Nat, good (encs ms) = true
  | [] => good_nil
  | m :: ms => by rw [encs_cons, good_enc, good_encs ms]
theorem front_encs : ∀ (ms : List Nat) (k : Int), ∃ a b, ms = a ++ b ∧ (encs ms).take (front (encs ms) k) = encs a
  | [], k => ⟨[], [], rfl, by rw [encs_nil, front_nil]; rfl⟩
  | m :: ms, k => by
    rw [encs_cons, front_cons _ (app_ne _ _), next_enc, drop_enc]
    dsimp only
    split
    · exact ⟨[], m :: ms, rfl, by simp [encs_nil]⟩
    · obtain ⟨a, b, h1, h2⟩ := front_encs ms (k - (enc (m : Int)).length)
      refine ⟨m :: a, b, by rw [h1]; rfl, ?_⟩
      rw [encs_cons, List.take_append, List.take_of_length_le (by omega), Nat.add_sub_cancel_left, h2]
theorem cut_encs {ms : List Nat} (h : ∀ m ∈ ms, mild m) (n : Nat) : ∃ us, cutL (encs ms) n = encs us ∧ ∀ m ∈ us, mild m := by
  unfold cutL
  split
  · exact ⟨ms, rfl, h⟩
  · obtain ⟨a, b, h1, h2⟩ := front_encs ms ((n : Int) - 3)
    refine ⟨a ++ [8230], ?_, ?_⟩
    · rw [h2, encs_append]; rfl
    · intro m hm
      rcases List.mem_append.1 hm with hm | hm
      · exact h m (by rw [h1]; exact List.mem_append.2 (.inl hm))
      · rw [List.mem_singleton] at hm; subst hm; exact ⟨by decide, by decide⟩
/-- What a text that is sanitised is cut to. -/
theorem cut_clean {t : List UInt8} (h : clean t = t) : clean (cutL t 4000) = cutL t 4000 ∧ good (cutL t 4000) = true := by
  obtain ⟨ms, h1, h2⟩ := clean_form t
  rw [h] at h1
  obtain ⟨us, h3, h4⟩ := cut_encs h2 4000
  rw [h1, h3]
  exact ⟨clean_encs us h4, good_encs us⟩
theorem cut_cut (t : List UInt8) : cutL (cutL t 4000) 4000 = cutL t 4000 := by
  have := cutL_length t 4000 (by omega)
  generalize cutL t 4000 = u at *
  unfold cutL; rw [if_pos this]
theorem hasPre_self (a b : List UInt8) : Lib.hasPrefix (a ++ b) a = true := by
  unfold Lib.hasPrefix; rw [List.isPrefixOf_iff_prefix]; exact ⟨b, rfl⟩
theorem hasSuf_self (a b : List UInt8) : Lib.hasSuffix (a ++ b) b = true := by
  unfold Lib.hasSuffix; rw [List.isSuffixOf_iff_suffix]; exact ⟨a, rfl⟩
theorem cutPre_chat (x : List UInt8) (b : Bool) : cutPreL (preC ++ x ++ endC b) preC = x ++ endC b := by
  unfold cutPreL
  rw [List.append_assoc, if_pos (hasPre_self _ _), List.drop_left]
theorem okC_self (x : List UInt8) (b : Bool) : okC (preC ++ x ++ endC b) b = true := by
  unfold okC
  rw [cutPre_chat, hasSuf_self, List.append_assoc, hasPre_self]; rfl
theorem inC_self (x : List UInt8) (b : Bool) : inC (preC ++ x ++ endC b) b = x := by
  unfold inC
  rw [cutPre_chat]
  unfold cutSufL
  rw [if_pos (hasSuf_self _ _), List.length_append, Nat.add_sub_cancel, List.take_left]
theorem suf_other (x : List UInt8) (b : Bool) : Lib.hasSuffix (x ++ endC b) (endC !b) = false := by
  rw [Bool.eq_false_iff]
  intro h
  unfold Lib.hasSuffix at h
  obtain ⟨y, hy⟩ := List.isSuffixOf_iff_suffix.1 h
  have h2 := congrArg (fun l => l.reverse.take 5) hy
  simp only [List.reverse_append] at h2
  cases b
  · have e1 : ((endC true).reverse ++ y.reverse).take 5 = [125, 101, 117, 114, 116] := rfl
    have e2 : ((endC false).reverse ++ x.reverse).take 5 = [125, 101, 115, 108, 97] := rfl
    rw [show (endC !false) = endC true from rfl, e1, e2] at h2
    revert h2; decide
  · have e1 : ((endC false).reverse ++ y.reverse).take 5 = [125, 101, 115, 108, 97] := rfl
    have e2 : ((endC true).reverse ++ x.reverse).take 5 = [125, 101, 117, 114, 116] := rfl
    rw [show (endC !true) = endC false from rfl, e1, e2] at h2
    revert h2; decide
theorem okC_other (x : List UInt8) (b : Bool) : okC (preC ++ x ++ endC b) (!b) = false := by
  unfold okC
  rw [cutPre_chat, suf_other, Bool.and_false]
/-- What is written of a post is read back. -/
theorem chat_back {t : List UInt8} (h : clean t = t) (b : Bool) : chatRd (chatL t b) = some (cutL t 4000, b) := by
  obtain ⟨hc, hg⟩ := cut_clean h
  have hl := cutL_length t 4000 (by omega)
  have hcc := cut_cut t
  have hr : readJ (writeJ (cutL t 4000)) = some (cutL t 4000) := by rw [read_write, joined_good _ _ (Nat.le_refl _) hg]
  have hret : rdC (chatL t b) b = .ret (cutL t 4000) := by
    unfold rdC
    have e : chatL (cutL t 4000) b = chatL t b := by unfold chatL; rw [hcc]
    have e1 : okC (chatL t b) b = true := okC_self _ _
    have e2 : inC (chatL t b) b = writeJ (cutL t 4000) := inC_self _ _
    rw [e1, if_neg (by simp), e2, hr]
    dsimp only
    rw [if_neg (by omega), if_pos ⟨hc, e⟩]
  unfold chatRd
  cases b
  · have e1 : rdC (chatL t false) true = .cont := by
      unfold rdC
      have : okC (chatL t false) true = false := okC_other _ false
      rw [if_pos this]
    rw [e1, hret]
  · rw [hret]
end Go.Proofs.Ytdmlciebkilmjaa
