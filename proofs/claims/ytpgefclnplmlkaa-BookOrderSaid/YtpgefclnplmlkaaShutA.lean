/- Books that are shut: what posting may still change. -/
import Derived.Test.YtpgefclnplmlkaaMadeA
namespace Go.Proofs.Ytpgefclnplmlkaa
open Go.ChangeShapes Go.WideShapes Go.ChangeAt Go.RowKit Go.PlainAid
set_option linter.unusedVariables false

theorem shut_ok {b : Bok} {d : Int} (h : BOk b) (h1 : 0 ≤ d) (h2 : d ≤ 292193) : BOk (shutb b d) :=
  ⟨h.ac, by show -1 ≤ d; omega, h2, h.len, h.enc, h.known, h.keys, h.sorted⟩
theorem plain_ok : bookc plainB = 0 := by decide +kernel
theorem shutc_zero {b : Bok} {d : Int} (h : shutc b d = 0) : bookc b = 0 ∧ 0 ≤ d ∧ d ≤ 292193 ∧ ¬ d < b.shut := by
  unfold shutc at h
  by_cases h1 : bookc b = 0
  · rw [if_neg (by simp [h1])] at h
    by_cases h2 : d < 0 ∨ 292193 < d
    · rw [if_pos h2] at h; omega
    · rw [if_neg h2] at h
      by_cases h3 : d < b.shut
      · rw [if_pos h3] at h; omega
      · exact ⟨h1, by omega, by omega, h3⟩
  · rw [if_pos h1] at h; exact absurd h h1
/-- Shut, where it is refused -/
theorem shut_no (A : Option Addr) (n c : Nat) (X : Option Addr) (m k : Nat) (b : Bok) (day : Int) (w : World) (hb : Bq w A n c X m k b) (hc : shutc b day ≠ 0) :
    Calls Try.prog 15 #[bv A n c X m k b.shut, .int .i64 day] w (PostNo w (shutc b day)) := by
  unfold shutc at hc ⊢
  by_cases h1 : bookc b = 0
  · rw [if_neg (by simp [h1])] at hc ⊢
    by_cases h2 : day < 0 ∨ 292193 < day
    · rw [if_pos h2]; exact shut_bad2 A n c X m k b day w hb h1 h2
    · rw [if_neg h2] at hc ⊢
      by_cases h3 : day < b.shut
      · rw [if_pos h3]; exact shut_bad9 A n c X m k b day w hb h1 (by omega) (by omega) h3
      · rw [if_neg h3] at hc; exact absurd rfl hc
  · rw [if_pos h1]; exact shut_bad1 A n c X m k b day w hb h1
theorem stepb_ok {b : Bok} (h : BOk b) (x : En) : BOk (stepb b x) := by
  by_cases hc : postc b x = 0
  · rw [stepb_yes hc]; exact post_ok hc
  · rw [stepb_no hc]; exact h
theorem madeb_ok {b : Bok} (h : BOk b) (es : List En) : BOk (madeb b es) := by
  induction es generalizing b with
  | nil => exact h
  | cons x xs ih => exact ih (stepb_ok h x)
theorem stepb_len (b : Bok) (x : En) : b.en.length ≤ (stepb b x).en.length := by
  by_cases hc : postc b x = 0
  · rw [stepb_yes hc, post_len hc]; split <;> omega
  · rw [stepb_no hc]; exact Nat.le_refl _
theorem madeb_len (b : Bok) (es : List En) : b.en.length ≤ (madeb b es).en.length := by
  induction es generalizing b with
  | nil => exact Nat.le_refl _
  | cons x xs ih => exact Nat.le_trans (stepb_len b x) (ih (stepb b x))
theorem stepb_of (b : Bok) (x : En) (s : ByteArray) (f : Int) {t : Int} (ht : t ≤ b.shut) : ofS (stepb b x).en s f t = ofS b.en s f t := by
  by_cases hc : postc b x = 0
  · rw [stepb_yes hc, post_of hc]
    by_cases hf : 0 ≤ findE b.en x.key
    · rw [if_pos hf, Int.add_zero]
    · obtain ⟨_, _, _, _, hd, _, _⟩ := post_new hc hf
      rw [if_neg hf]
      unfold enOf
      rw [if_pos (by omega), Int.add_zero]
  · rw [stepb_no hc]
theorem madeb_of (b : Bok) (es : List En) (s : ByteArray) (f : Int) {t : Int} (ht : t ≤ b.shut) : ofS (madeb b es).en s f t = ofS b.en s f t := by
  induction es generalizing b with
  | nil => rfl
  | cons x xs ih => exact (ih (stepb b x) (by rw [(stepb_ac b x).2]; exact ht)).trans (stepb_of b x s f ht)
/-- no balance of a day that is shut changes -/
theorem madeb_bal {b : Bok} (h : BOk b) (es : List En) (s : ByteArray) {t : Int} (ht : t ≤ b.shut) : balc (madeb b es) s t = balc b s t ∧ balv (madeb b es) s t = balv b s t := by
  have e : balc (madeb b es) s t = balc b s t := by
    unfold balc
    rw [(bookc_iff _).2 h, (bookc_iff _).2 (madeb_ok h es), (madeb_ac b es).1]
  refine ⟨e, ?_⟩
  unfold balv
  rw [e, madeb_of b es s 0 ht]
/-- what can be posted to a day that is shut is there already -/
theorem post_there {b : Bok} {x : En} (h : postc b x = 0) (hd : x.day ≤ b.shut) : ∃ i : Nat, i < b.en.length ∧ findE b.en x.key = i := by
  by_cases hf : 0 ≤ findE b.en x.key
  · rcases findE_cases b.en x.key with ⟨e, _⟩ | ⟨i, hi, e, _⟩
    · rw [e] at hf; omega
    · exact ⟨i, hi, e⟩
  · obtain ⟨_, _, _, _, h5, _, _⟩ := post_new h hf
    omega

end Go.Proofs.Ytpgefclnplmlkaa
