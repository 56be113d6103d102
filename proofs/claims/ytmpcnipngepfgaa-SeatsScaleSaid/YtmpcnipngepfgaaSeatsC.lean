/- Known deals; what a law of seats asks of seats.Deal. -/
import Derived.Test.YtmpcnipngepfgaaSeatsB
import Derived.Test.YtmpcnipngepfgaaFracA
namespace Go.Proofs.Ytmpcnipngepfgaa
open Go.ChangeShapes Go.WideShapes Go.ChangeAt Go.RowKit
set_option linter.unusedVariables false

def precB (way : Int) (v : Nat → Int) (k : Nat) (s : Int) (i : Nat) (t : Int) : Bool :=
  decide (v i * dv way s < v k * dv way t) || (decide (v i * dv way s = v k * dv way t) && decide (k < i))
def fairB (way : Int) (m : Nat) (v x : Nat → Int) : Bool :=
  (List.range m).all fun i => decide (0 ≤ x i) && (decide (v i ≠ 0) || decide (x i = 0)) && (List.range m).all fun k => decide (i = k) || decide (v i ≤ 0) || decide (x k ≤ 0) || precB way v k (x k - 1) i (x i)
theorem fair_of_B {way : Int} {m : Nat} {v x : Nat → Int} (h : fairB way m v x = true) : Fair way m v x := by
  simp only [fairB, List.all_eq_true, List.mem_range, Bool.and_eq_true, Bool.or_eq_true, decide_eq_true_eq] at h
  refine ⟨fun i hi => (h i hi).1.1, fun i hi hz => ?_, fun i k hi hk hik hvi hxk => ?_⟩
  · rcases (h i hi).1.2 with a | a
    · exact absurd hz a
    · exact a
  · rcases (h i hi).2 k hk with ((a | a) | a) | a
    · exact absurd a hik
    · omega
    · omega
    · simp only [precB, Bool.or_eq_true, Bool.and_eq_true, decide_eq_true_eq] at a
      exact a
/-- the same deal -/
theorem deal_known {way : Int} {vs xs ys : List Int} {n : Nat} (hv : ∀ v ∈ vs, voteOk v) (h : DealInv way vs xs n) (h' : DealInv way vs ys n) : xs = ys := by
  apply List.ext_getElem
  · rw [h.1, h'.1]
  · intro i h1 h2
    have := fair_unique (fun i hi => (voteOk_get hv i).1) h.2.1 h'.2.1 (by rw [h.2.2, h'.2.2]) i (by rw [← h.1]; exact h1)
    simpa [at0, List.getD_eq_getElem?_getD, h1, h2] using this
theorem deal_beg {way : Int} {vs xs ys : List Int} {n : Nat} (hv : ∀ v ∈ vs, voteOk v) (h : DealInv way vs xs n) (hb : fairB way vs.length (at0 vs) (at0 ys) = true) (hl : ys.length = vs.length) (hs : sumTo (at0 ys) vs.length = n) : xs = ys :=
  deal_known hv h ⟨hl, fair_of_B hb, hs⟩
theorem within_eq (k n v : Int) (w : World) (h1 : 1 ≤ n) (h2 : n ≤ 4000000000000) (h : wi k n = v) :
    Calls Try.prog 18 #[.int .i64 k, .int .i64 n] w fun e w' => e = .returned (.int .i64 v) ∧ w = w' := by
  have := within_any k n w h1 h2
  rw [h] at this
  exact this
/-- what seats.Deal hands back, whatever comes in -/
def DealAny (w : World) (way n : Int) (N : Nat) (vs : List Int) (e : Ending) (w' : World) : Prop :=
  (dcode way n vs = 0 ∧ DealPost w way N vs e w') ∨ (dcode way n vs ≠ 0 ∧ e = .returned (.tuple #[.slice none 0 0, .int .i64 (dcode way n vs)]) ∧ w = w')
theorem deal_any (way n : Int) (N : Nat) (A : Option Addr) (m cap : Nat) (vs : List Int) (w : World) (hn : 0 ≤ n → n = N) (hr : Ri w A vs) (hm : vs.length = m) :
    Calls Try.prog 15 #[.int .i64 way, .int .i64 n, .slice A m cap] w (DealAny w way n N vs) := by
  by_cases hc : dcode way n vs = 0
  · have h1 : 0 ≤ way ∧ way ≤ 2 ∧ lcode n vs = 0 := by
      unfold dcode at hc
      by_cases hw : way < 0 ∨ 2 < way
      · rw [if_pos hw] at hc; omega
      · rw [if_neg hw] at hc; exact ⟨by omega, by omega, hc⟩
    have h2 := (lcode_zero h1.2.2).2.2.1
    exact (deal_int way n N A m cap vs w (hn h2) h1.1 h1.2.1 hr hm h1.2.2).mono fun _ _ h => .inl ⟨hc, h⟩
  · exact (deal_no way n A m cap vs w hr hm hc).mono fun _ _ h => .inr ⟨hc, h⟩
theorem dcode_zero {way n : Int} {vs : List Int} (h : dcode way n vs = 0) : 0 ≤ way ∧ way ≤ 2 ∧ lcode n vs = 0 := by
  unfold dcode at h
  by_cases hw : way < 0 ∨ 2 < way
  · rw [if_pos hw] at h; omega
  · rw [if_neg hw] at h; exact ⟨by omega, by omega, h⟩

end Go.Proofs.Ytmpcnipngepfgaa
