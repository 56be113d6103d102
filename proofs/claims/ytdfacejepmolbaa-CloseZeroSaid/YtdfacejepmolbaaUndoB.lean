/- closing.Undo, be it refused or not; what it does to balances. -/
import Derived.Test.YtdfacejepmolbaaUndoA
import Derived.Test.YtdfacejepmolbaaShutA
namespace Go.Proofs.Ytdfacejepmolbaa
open Go.ChangeShapes Go.WideShapes Go.ChangeAt Go.RowKit Go.PlainAid
set_option linter.unusedVariables false

theorem key_max {w : World} {A : Option Addr} {n c : Nat} {X : Option Addr} {m k : Nat} {b : Bok} (hb : Bq w A n c X m k b) {i : Nat} (hi : i < b.en.length) : (ne b.en i).key.size ≤ maxLen := by
  obtain ⟨_, _, _, _, _, _, h, _⟩ := hb.es.at_ i hi
  exact h
theorem turned_yes (x : En) (by' : ByteArray) (day : Int) (hks : x.key.size ≤ maxLen) (hy : by'.size ≤ maxLen) (he : enc x = 0) (hkb : keyB by' = true) (d0 : 0 ≤ day) (d9 : day ≤ 292193) (w : World) (A : Option Addr) (n c : Nat) (hl : Lq w A n c x.ls) :
    Calls Try.prog 27 #[.agg #[.string x.key, .int .i64 x.day, .slice A n c], .string by', .int .i64 day] w fun e w' => ∃ A n c, e = .returned (.tuple #[.agg #[.string by', .int .i64 day, .slice A n c], .int .i64 0]) ∧ Lq w' A n c (turn x.ls) ∧ Mor w w' := by
  obtain ⟨h12, -⟩ := en_lines he
  refine (turned_ok x.key x.day A n c x.ls by' day w hks hl.si hl.length hl.le (Nat.le_trans hl.le hl.max) hl.str hy he hkb d0 d9 (by rw [← hl.length]; exact h12)).mono fun e w' h => ?_
  obtain ⟨A2, c2, h1, h2, h3⟩ := h
  exact ⟨A2, n, c2, h1, h2, h3⟩
theorem turned_bad (x : En) (by' : ByteArray) (day : Int) (r : Int) (hr : r ≠ 0) (hks : x.key.size ≤ maxLen) (hy : by'.size ≤ maxLen) (hc : turnc x.key x.day x.ls by' day = r) (w : World) (A : Option Addr) (n c : Nat) (hl : Lq w A n c x.ls) :
    Calls Try.prog 27 #[.agg #[.string x.key, .int .i64 x.day, .slice A n c], .string by', .int .i64 day] w fun e w' => e = .returned (.tuple #[.agg #[.string { data := #[] }, .int .i64 0, .slice none 0 0], .int .i64 r]) ∧ Mor w w' := by
  subst hc
  exact turned_no x.key x.day A n c x.ls by' day w hks hl.si hl.length hl.le (Nat.le_trans hl.le hl.max) hl.str hy hr
theorem undo_no (A : Option Addr) (n c : Nat) (X : Option Addr) (m k : Nat) (b : Bok) (key by' : ByteArray) (day : Int) (w : World) (hb : Bq w A n c X m k b) (hy : by'.size ≤ maxLen) (hc : undoc b key by' day ≠ 0) :
    Calls Try.prog 10 #[bv A n c X m k b.shut, .string key, .string by', .int .i64 day] w (PostNo w (undoc b key by' day)) := by
  unfold undoc at hc ⊢
  by_cases h1 : bookc b = 0
  · rw [if_neg (by simp [h1])] at hc ⊢
    by_cases h2 : findE b.en key < 0
    · rw [if_pos h2]
      exact undo_g A n c X m k b.shut key by' day w 4 (by omega) fun w' h => get_bad4 A n c X m k b key w' (hb.mor h) h1 h2
    · rw [if_neg h2] at hc ⊢
      have hbo := (bookc_iff b).1 h1
      obtain ⟨i, hi, hf, hk⟩ : ∃ i : Nat, i < b.en.length ∧ findE b.en key = i ∧ (ne b.en i).key = key := by
        rcases findE_cases b.en key with ⟨e, _⟩ | ⟨i, hi, e, hk⟩
        · rw [e] at h2; omega
        · exact ⟨i, hi, e, by rw [ne_eq _ _ hi]; exact hk⟩
      have hG : ∀ w', Mor w w' → Calls Try.prog 12 #[bv A n c X m k b.shut, .string key] w' (GetYes w' (ne b.en i)) := fun w' h => get_yes A n c X m k b key w' (hb.mor h) h1 i (by rw [← hb.length]; exact hi) hf
      have he : enc (ne b.en i) = 0 := by rw [ne_eq _ _ hi]; exact hbo.enc _ (List.getElem_mem hi)
      have hks := key_max hb hi
      have hent : entc (ne b.en i).key (ne b.en i).day (ne b.en i).ls = 0 := he
      have hu : undoE b key by' day = ⟨by', day, turn (ne b.en i).ls⟩ := by unfold undoE; rw [hf, show ((i : Int)).toNat = i by omega]
      cases h3 : keyB by'
      · rw [if_pos rfl]
        exact undo_t A n c X m k b.shut key by' day w (ne b.en i) 3 (by omega) hG (turned_bad _ by' day 3 (by omega) hks hy (by unfold turnc; rw [if_neg (by simp [hent]), if_pos h3]))
      · rw [h3] at hc
        rw [if_neg (by simp)] at hc ⊢
        by_cases h4 : day < 0 ∨ 292193 < day
        · rw [if_pos h4]
          exact undo_t A n c X m k b.shut key by' day w (ne b.en i) 1 (by omega) hG (turned_bad _ by' day 1 (by omega) hks hy (by unfold turnc; rw [if_neg (by simp [hent]), if_neg (by simp [h3]), if_pos h4]))
        · rw [if_neg h4] at hc ⊢
          rw [hu] at hc ⊢
          exact undo_pn A n c X m k b.shut key by' day w (ne b.en i) _ hG (turned_yes _ by' day hks hy he h3 (by omega) (by omega)) fun w' B p q h hl => post_no A n c X m k b ⟨by', day, turn (ne b.en i).ls⟩ B p q w' (hb.mor h) hl hy hc
  · rw [if_pos h1]
    exact undo_g A n c X m k b.shut key by' day w _ h1 fun w' h => get_bad1 A n c X m k b key w' (hb.mor h) h1
theorem undo_yes (A : Option Addr) (n c : Nat) (X : Option Addr) (m k : Nat) (b : Bok) (key by' : ByteArray) (day : Int) (w : World) (hb : Bq w A n c X m k b) (hy : by'.size ≤ maxLen) (hc : undoc b key by' day = 0) :
    Calls Try.prog 10 #[bv A n c X m k b.shut, .string key, .string by', .int .i64 day] w (PostYes w (postb b (undoE b key by' day))) := by
  obtain ⟨hbo, ⟨i, hi, hf, hk, hu⟩, h3, d0, d9, hp⟩ := undoc_zero hc
  have h1 := (bookc_iff b).2 hbo
  have he : enc (ne b.en i) = 0 := by rw [ne_eq _ _ hi]; exact hbo.enc _ (List.getElem_mem hi)
  have hks := key_max hb hi
  rw [hu] at hp ⊢
  exact undo_py A n c X m k b.shut key by' day w (ne b.en i) _ (fun w' h => get_yes A n c X m k b key w' (hb.mor h) h1 i (by rw [← hb.length]; exact hi) hf) (turned_yes _ by' day hks hy he h3 d0 d9) fun w' B p q h hl => post_yes A n c X m k b ⟨by', day, turn (ne b.en i).ls⟩ B p q w' (hb.mor h) hl hy hp

end Go.Proofs.Ytdfacejepmolbaa
