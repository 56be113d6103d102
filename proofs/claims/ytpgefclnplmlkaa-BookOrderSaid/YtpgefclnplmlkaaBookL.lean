/- The walk of book.Post (printed by gpost.py). -/
import Derived.Test.YtpgefclnplmlkaaBookI
import Derived.Test.YtpgefclnplmlkaaBookJ
import Derived.Test.YtpgefclnplmlkaaBookK
namespace Go.Proofs.Ytpgefclnplmlkaa
open Go.ChangeShapes Go.WideShapes Go.ChangeAt Go.RowKit Go.PlainAid
set_option linter.unusedVariables false

/-- what book.Post says and answers -/
theorem post_no (A : Option Addr) (n c : Nat) (X : Option Addr) (m k : Nat) (b : Bok) (x : En) (B : Option Addr) (p q : Nat) (w : World) (hb : Bq w A n c X m k b) (hx : Lq w B p q x.ls) (hks : x.key.size ≤ maxLen) (hc : postc b x ≠ 0) :
    Calls Try.prog 22 #[bv A n c X m k b.shut, .agg #[.string x.key, .int .i64 x.day, .slice B p q]] w (PostNo w (postc b x)) := by
  unfold postc at hc ⊢
  by_cases h1 : bookc b = 0
  · rw [if_neg (by simp [h1])] at hc ⊢
    by_cases h2 : enc x = 0
    · rw [if_neg (by simp [h2])] at hc ⊢
      by_cases h3 : 0 ≤ findE b.en x.key
      · rw [if_pos h3] at hc ⊢
        by_cases h4 : ne b.en (findE b.en x.key).toNat = x
        · rw [if_pos h4] at hc; exact absurd rfl hc
        · rw [if_neg h4]; exact post_bad5 A n c X m k b x B p q w hb hx hks h1 h2 h3 h4
      · rw [if_neg h3] at hc ⊢
        by_cases h4 : knownB b.ac x = false
        · rw [if_pos h4]; exact post_bad4 A n c X m k b x B p q w hb hx hks h1 h2 h3 h4
        · rw [if_neg h4] at hc ⊢
          by_cases h5 : x.day ≤ b.shut
          · rw [if_pos h5]; exact post_bad9 A n c X m k b x B p q w hb hx hks h1 h2 h3 (by simpa using h4) h5
          · rw [if_neg h5] at hc ⊢
            by_cases h6 : b.en.length = 60
            · rw [if_pos h6]; exact post_bad60 A n c X m k b x B p q w hb hx hks h1 h2 h3 (by simpa using h4) h5 (by rw [← hb.length]; exact h6)
            · rw [if_neg h6] at hc; exact absurd rfl hc
    · rw [if_pos h2]; exact post_bad2 A n c X m k b x B p q w hb hx hks h1 h2
  · rw [if_pos h1]; exact post_bad1 A n c X m k b x B p q w hb hx hks h1
theorem post_yes (A : Option Addr) (n c : Nat) (X : Option Addr) (m k : Nat) (b : Bok) (x : En) (B : Option Addr) (p q : Nat) (w : World) (hb : Bq w A n c X m k b) (hx : Lq w B p q x.ls) (hks : x.key.size ≤ maxLen) (hc : postc b x = 0) :
    Calls Try.prog 22 #[bv A n c X m k b.shut, .agg #[.string x.key, .int .i64 x.day, .slice B p q]] w (PostYes w (postb b x)) := by
  obtain ⟨h1, h2, h3⟩ := post_pre hc
  by_cases hf : 0 ≤ findE b.en x.key
  · rw [if_pos hf] at h3
    rw [show postb b x = b by unfold postb; rw [if_pos hf]]
    by_cases h4 : ne b.en (findE b.en x.key).toNat = x
    · exact post_same A n c X m k b x B p q w hb hx hks ((bookc_iff b).2 h1) h2 hf h4
    · rw [if_neg h4] at h3; omega
  · rw [if_neg hf] at h3
    rw [show postb b x = { b with en := ins x b.en } by unfold postb; rw [if_neg hf]]
    by_cases h4 : knownB b.ac x = false
    · rw [if_pos h4] at h3; omega
    · rw [if_neg h4] at h3
      by_cases h5 : x.day ≤ b.shut
      · rw [if_pos h5] at h3; omega
      · rw [if_neg h5] at h3
        by_cases h6 : b.en.length = 60
        · rw [if_pos h6] at h3; omega
        · exact post_new_ok A n c X m k b x B p q w hb hx hks ((bookc_iff b).2 h1) h2 hf (by simpa using h4) h5 (by rw [← hb.length]; exact h6)


end Go.Proofs.Ytpgefclnplmlkaa
