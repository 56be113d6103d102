/- The walks of trial.look, trial.Trial, trial.kinds, trial.Profit, trial.Sheet. -/
import Derived.Test.YtdfacejepmolbaaBookR
namespace Go.Proofs.Ytdfacejepmolbaa
open Go.ChangeShapes Go.WideShapes Go.ChangeAt Go.RowKit Go.PlainAid
set_option linter.unusedVariables false

def lookc (b : Bok) (day : Int) : Int := if bookc b ≠ 0 then bookc b else if day < 0 ∨ 292193 < day then 1 else 0
set_option maxHeartbeats 800000 in
theorem look_any (A : Option Addr) (n c : Nat) (X : Option Addr) (m k : Nat) (b : Bok) (day : Int) (w : World) (h : Bq w A n c X m k b) :
    Calls Try.prog 34 #[bv A n c X m k b.shut, .int .i64 day] w fun e w' => e = .returned (.int .i64 (lookc b day)) ∧ Mor w w' := by
  have HC := Lib.hid (fun w' (hm : Mor w w') => bcheck_any A n c X m k b w' (h.mor hm))
  have HL := Lib.hid (show lookc b day = if bookc b ≠ 0 then bookc b else if day < 0 ∨ 292193 < day then 1 else 0 from rfl)
  have HD := Lib.hid (fun w => cis_any day w)
  generalize lookc b day = l at *
  generalize bookc b = r at *
  generalize b.shut = sh at *
  clear h
  by_cases h1 : r = 0
  · subst h1
    rw [if_neg (by simp)] at HL
    by_cases h3 : day < 0 ∨ 292193 < day
    · rw [if_pos h3] at HL
      rw [show (decide (0 ≤ day) && decide (day ≤ 292193)) = false by simp; omega] at HD
      go_enter Try.func34, Try.ntmps34
      go_wp2_with fail
      refine (HC.out _ (Mor.refl _).alloc).mono ?_
      rintro e w1 ⟨rfl, hm⟩
      have HM := Lib.hid ((Mor.refl w).alloc.trans' hm)
      clear hm
      go_wp2_with (go_at_call 29; (with_reducible refine (HD.out _).mono ?_); rintro e w2 ⟨rfl, rfl⟩)
      go_ret
      exact ⟨by rw [HL.out] <;> rfl, HM.out⟩
    · rw [if_neg h3] at HL
      rw [show (decide (0 ≤ day) && decide (day ≤ 292193)) = true by simp; omega] at HD
      go_enter Try.func34, Try.ntmps34
      go_wp2_with fail
      refine (HC.out _ (Mor.refl _).alloc).mono ?_
      rintro e w1 ⟨rfl, hm⟩
      have HM := Lib.hid ((Mor.refl w).alloc.trans' hm)
      clear hm
      go_wp2_with (go_at_call 29; (with_reducible refine (HD.out _).mono ?_); rintro e w2 ⟨rfl, rfl⟩)
      go_ret
      exact ⟨by rw [HL.out] <;> rfl, HM.out⟩
  · rw [if_pos h1] at HL
    have hr : (r != 0) = true := by simpa using h1
    go_enter Try.func34, Try.ntmps34
    go_wp2_with fail
    refine (HC.out _ (Mor.refl _).alloc).mono ?_
    rintro e w1 ⟨rfl, hm⟩
    have HM := Lib.hid ((Mor.refl w).alloc.trans' hm)
    clear hm
    go_wp2_with fail
    go_ret
    exact ⟨by rw [HL.out] <;> rfl, HM.out⟩
theorem lookc_zero {b : Bok} {d : Int} (h : lookc b d = 0) : BOk b ∧ 0 ≤ d ∧ d ≤ 292193 := by
  unfold lookc at h
  by_cases h1 : bookc b = 0
  · rw [if_neg (by simp [h1])] at h
    by_cases h2 : d < 0 ∨ 292193 < d
    · rw [if_pos h2] at h; omega
    · exact ⟨(bookc_iff b).1 h1, by omega, by omega⟩
  · rw [if_pos h1] at h; exact absurd h h1
theorem lookc_of {b : Bok} {d : Int} (h1 : BOk b) (h2 : 0 ≤ d) (h3 : d ≤ 292193) : lookc b d = 0 := by
  unfold lookc; rw [if_neg (by simp [(bookc_iff b).2 h1]), if_neg (by omega)]

/- Trial -/
def posv (es : List En) (t : Int) (a : Ln) : Int := if 0 < ofS es a.1 0 t then ofS es a.1 0 t else 0
def negv (es : List En) (t : Int) (a : Ln) : Int := if 0 < ofS es a.1 0 t then 0 else -ofS es a.1 0 t
def posS (b : Bok) (t : Int) : Int := sm (posv b.en t) b.ac
def negS (b : Bok) (t : Int) : Int := sm (negv b.en t) b.ac
theorem pos_neg {b : Bok} (h : BOk b) (t : Int) : posS b t = negS b t ∧ 0 ≤ posS b t := by
  have e : sm (fun a : Ln => posv b.en t a) b.ac = sm (fun a : Ln => ofS b.en a.1 0 t + negv b.en t a) b.ac := sm_congr fun a _ => by
    unfold posv negv; split <;> omega
  rw [sm_add, all_zero h 0 t] at e
  have e' : posS b t = 0 + negS b t := e
  refine ⟨by rw [e', Int.zero_add], ?_⟩
  have hp : ∀ l : List Ln, 0 ≤ sm (posv b.en t) l := by
    intro l
    induction l with
    | nil => exact Int.le_refl _
    | cons a l ih => show 0 ≤ posv b.en t a + sm (posv b.en t) l; unfold posv at *; split <;> omega
  exact hp _
end Go.Proofs.Ytdfacejepmolbaa
