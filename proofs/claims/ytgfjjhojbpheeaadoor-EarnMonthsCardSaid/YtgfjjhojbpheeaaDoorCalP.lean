/- The plain law of months: la, ad, mos. -/
import Derived.Test.YtgfjjhojbpheeaaDoorCalD
namespace Go.Proofs.YtgfjjhojbpheeaaDoor
set_option linter.unusedVariables false

theorem IsD.ym {n k D : Int} (h : IsD n k D) : yr n = 1600 + k / 12 ∧ mo n = 1 + k % 12 ∧ Go.Proofs.YtgfjjhojbpheeaaDoor.dm n = D := by
  unfold yr mo; rw [h.dk, h.dm]; exact ⟨rfl, rfl, rfl⟩
theorem ym_dk (n : Int) : 12 * yr n + mo n = 19201 + dk n := by unfold yr mo; omega
theorem la_isD {n : Int} (h0 : 0 ≤ n) (h9 : n ≤ 292193) : IsD (la n) (dk n) (lk (dk n)) := by
  have h := isD_of h0 h9
  exact isD_mk h.k0 h.k1 (by have := lk_bd (dk n); omega) (Int.le_refl _)
theorem la_facts {n : Int} (h0 : 0 ≤ n) (h9 : n ≤ 292193) : n ≤ la n ∧ la n ≤ 292193 ∧ la (la n) = la n ∧ yr (la n) = yr n ∧ mo (la n) = mo n := by
  have h := la_isD h0 h9
  have hn := isD_of h0 h9
  refine ⟨by have := hn.eq; have := hn.d1; unfold la; omega, h.bd.2, ?_, ?_, ?_⟩
  · show fk (dk (la n)) + lk (dk (la n)) - 1 = la n
    rw [h.dk]; rfl
  · unfold yr; rw [h.dk]
  · unfold mo; rw [h.dk]
theorem la_next {n : Int} (h0 : 0 ≤ n) (h9 : n ≤ 292193) (h : la n ≠ 292193) : IsD (la n + 1) (dk n + 1) 1 := by
  have hl := la_isD h0 h9
  have hn := isD_of h0 h9
  have := hn.k0; have := hn.k1
  refine ⟨by omega, ?_, by omega, by have := lk_bd (dk n + 1); omega, by rw [fk_succ]; unfold la; omega⟩
  by_cases e : dk n + 1 = 9600
  · have e2 := fk_succ (dk n)
    rw [e, fk_top] at e2
    unfold la at h; omega
  · omega

/-- the day of a month, cut at its end -/
noncomputable def cut (n k : Int) : Int := if lk k < dm n then lk k else dm n
theorem ad_eq (n m : Int) : ad n m = fk (dk n + m) + cut n (dk n + m) - 1 := rfl
theorem cut_bd {n k : Int} (h0 : 0 ≤ n) (h9 : n ≤ 292193) : 1 ≤ cut n k ∧ cut n k ≤ lk k ∧ cut n k ≤ dm n := by
  have h := isD_of h0 h9
  have := h.d0; have := lk_bd k
  unfold cut; split <;> omega
theorem ad_isD {n m : Int} (h0 : 0 ≤ n) (h9 : n ≤ 292193) (k0 : 0 ≤ dk n + m) (k9 : dk n + m < 9600) : IsD (ad n m) (dk n + m) (cut n (dk n + m)) := by
  have h := cut_bd (k := dk n + m) h0 h9
  exact isD_mk k0 k9 h.1 h.2.1
theorem le_dk {n n' : Int} (h0 : 0 ≤ n) (h9 : n' ≤ 292193) (h : n ≤ n') : dk n ≤ dk n' := by
  have a := isD_of h0 (by omega); have b := isD_of (n := n') (by omega) h9
  rcases (a.le b).1 h with h | h <;> omega
theorem ad_mono1 {n n' m : Int} (h0 : 0 ≤ n) (h9 : n' ≤ 292193) (h : n ≤ n') (k0 : 0 ≤ dk n + m) (k9 : dk n' + m < 9600) : ad n m ≤ ad n' m := by
  have a := isD_of h0 (by omega); have b := isD_of (n := n') (by omega) h9
  have hd := le_dk h0 h9 h
  refine ((ad_isD h0 (by omega) k0 (by omega)).le (ad_isD (n := n') (by omega) h9 (by omega) k9)).2 ?_
  rcases (a.le b).1 h with h | ⟨h, h'⟩
  · left; omega
  · right; refine ⟨by omega, ?_⟩
    unfold cut; rw [h]; split <;> split <;> omega
theorem ad_mono2 {n m m' : Int} (h0 : 0 ≤ n) (h9 : n ≤ 292193) (h : m ≤ m') (k0 : 0 ≤ dk n + m) (k9 : dk n + m' < 9600) : ad n m ≤ ad n m' := by
  refine ((ad_isD h0 h9 k0 (by omega)).le (ad_isD h0 h9 (by omega) k9)).2 ?_
  by_cases e : m = m'
  · subst e; right; exact ⟨rfl, Int.le_refl _⟩
  · left; omega
theorem ad_zero {n : Int} (h0 : 0 ≤ n) (h9 : n ≤ 292193) : ad n 0 = n := by
  have h := isD_of h0 h9
  rw [ad_eq, Int.add_zero]
  unfold cut
  have := h.d1; have := h.eq
  rw [if_neg (by omega)]; omega

/-- how many months are between two days -/
noncomputable def mos (a b : Int) : Int := if b < ad a (dk b - dk a) then dk b - dk a - 1 else dk b - dk a
theorem mos_ge {a b : Int} (h0 : 0 ≤ a) (h9 : b ≤ 292193) (h : a ≤ b) : 0 ≤ mos a b ∧ mos a b ≤ dk b - dk a := by
  have hd := le_dk h0 h9 h
  unfold mos
  by_cases e : dk b - dk a = 0
  · rw [e, ad_zero h0 (by omega), if_neg (by omega)]; omega
  · split <;> omega
theorem mos_le {a b : Int} (h0 : 0 ≤ a) (h9 : b ≤ 292193) (h : a ≤ b) : mos a b < 9600 := by
  have a1 := (isD_of (n := a) h0 (by omega)).k0; have b1 := (isD_of (n := b) (by omega) h9).k1
  have := (mos_ge h0 h9 h).2; omega
theorem galois {a b k : Int} (h0 : 0 ≤ a) (h9 : b ≤ 292193) (h : a ≤ b) (hk : 0 ≤ k) : k ≤ mos a b ↔ (dk a + k < 9600 ∧ ad a k ≤ b) := by
  have ha := isD_of (n := a) h0 (by omega); have hb := isD_of (n := b) (by omega) h9
  have hd := le_dk h0 h9 h
  have a0 := ha.k0; have b9 := hb.k1
  unfold mos
  constructor
  · intro hle
    have h1 : k ≤ dk b - dk a := by split at hle <;> omega
    refine ⟨by omega, ?_⟩
    by_cases e : k = dk b - dk a
    · subst e
      split at hle
      · omega
      · omega
    · refine ((ad_isD h0 (by omega) (by omega) (by omega)).le hb).2 (.inl (by omega))
  · rintro ⟨h1, h2⟩
    have h3 := ((ad_isD h0 (by omega) (by omega) h1).le hb).1 h2
    by_cases e : k = dk b - dk a
    · subst e; rw [if_neg (by omega)]; omega
    · split <;> omega

/- days known by number -/
theorem isD_num (k D : Int) (h0 : 0 ≤ k) (h1 : k < 9600) (d0 : 1 ≤ D) (d1 : D ≤ lk k) {n : Int} (hn : fk k + D - 1 = n) : IsD n k D := ⟨h0, h1, d0, d1, hn.symm⟩
theorem d30 : IsD 30 0 31 := isD_num 0 31 (by decide) (by decide) (by decide) (by decide) (by decide)
theorem d31 : IsD 31 1 1 := isD_num 1 1 (by decide) (by decide) (by decide) (by decide) (by decide)
theorem d59 : IsD 59 1 29 := isD_num 1 29 (by decide) (by decide) (by decide) (by decide) (by decide)
theorem d00 : IsD 0 0 1 := isD_num 0 1 (by decide) (by decide) (by decide) (by decide) (by decide)
theorem d366 : IsD 366 12 1 := isD_num 12 1 (by decide) (by decide) (by decide) (by decide) (by decide)
theorem la31 : la 31 = 59 := by unfold la; rw [d31.dk]; decide
theorem ad30_1 : ad 30 1 = 59 := by rw [ad_eq, d30.dk]; unfold cut; rw [d30.dm]; decide
theorem ad0_12 : ad 0 12 = 366 := by rw [ad_eq, d00.dk]; unfold cut; rw [d00.dm]; decide
theorem mos30_59 : mos 30 59 = 1 := by unfold mos; rw [d59.dk, d30.dk, show (1 : Int) - 0 = 1 by rfl, ad30_1]; decide
theorem ad0_1 : ad 0 1 = 31 := by rw [ad_eq, d00.dk]; unfold cut; rw [d00.dm]; decide
theorem mos0_31 : mos 0 31 = 1 := by unfold mos; rw [d31.dk, d00.dk, show (1 : Int) - 0 = 1 by rfl, ad0_1]; decide

end Go.Proofs.YtgfjjhojbpheeaaDoor
