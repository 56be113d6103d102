/- Contracts that hold whether the call is refused or not. -/
import Derived.Test.YtdfacejepmolbaaUndoC
namespace Go.Proofs.Ytdfacejepmolbaa
open Go.ChangeShapes Go.WideShapes Go.ChangeAt Go.RowKit Go.PlainAid
set_option linter.unusedVariables false

/-- the book that comes with a refusal -/
def zeroB : Bok := ⟨[], [], 0⟩
theorem own_zero (w : World) (base : Nat) : OwnB w base (.slice none 0 0) (.slice none 0 0) 0 0 zeroB :=
  ⟨World.ownsRow_nil _ _ _ _, rfl, fun i hi => absurd hi (Nat.not_lt_zero _), [], World.ownsRow_nil _ _ _ _, rfl, rfl, fun i hi => absurd hi (Nat.not_lt_zero _)⟩
def PostAny (w : World) (y : Bok) (r : Int) (e : Ending) (w' : World) : Prop :=
  ∃ A n c X m k, e = .returned (.tuple #[bv A n c X m k y.shut, .int .i64 r]) ∧ OwnB w' w.heap.size (.slice A n c) (.slice X m k) n m y ∧ Mor w w'
theorem any_no {w w' : World} {r : Int} {e : Ending} (h : PostNo w r e w') : PostAny w zeroB r e w' :=
  ⟨none, 0, 0, none, 0, 0, h.1, own_zero _ _, h.2⟩
theorem any_yes {w w' : World} {y : Bok} {e : Ending} (h : PostYes w y e w') : PostAny w y 0 e w' := h
def undob (b : Bok) (key by' : ByteArray) (day : Int) : Bok := if undoc b key by' day = 0 then postb b (undoE b key by' day) else zeroB
theorem undo_any (A : Option Addr) (n c : Nat) (X : Option Addr) (m k : Nat) (b : Bok) (key by' : ByteArray) (day : Int) (w : World) (hb : Bq w A n c X m k b) (hy : by'.size ≤ maxLen) :
    Calls Try.prog 10 #[bv A n c X m k b.shut, .string key, .string by', .int .i64 day] w (PostAny w (undob b key by' day) (undoc b key by' day)) := by
  unfold undob
  by_cases hc : undoc b key by' day = 0
  · rw [if_pos hc, hc]
    exact (undo_yes A n c X m k b key by' day w hb hy hc).mono fun e w' h => any_yes h
  · rw [if_neg hc]
    exact (undo_no A n c X m k b key by' day w hb hy hc).mono fun e w' h => any_no h
/-- what Get says -/
def getcB (b : Bok) (key : ByteArray) : Int := if bookc b ≠ 0 then bookc b else if findE b.en key < 0 then 4 else 0
def GetAny (w : World) (r : Int) (e : Ending) (w' : World) : Prop := ∃ s d A n c, e = .returned (.tuple #[.agg #[.string s, .int .i64 d, .slice A n c], .int .i64 r]) ∧ Mor w w'
theorem get_any (A : Option Addr) (n c : Nat) (X : Option Addr) (m k : Nat) (b : Bok) (key : ByteArray) (w : World) (hb : Bq w A n c X m k b) :
    Calls Try.prog 12 #[bv A n c X m k b.shut, .string key] w (GetAny w (getcB b key)) := by
  unfold getcB
  by_cases h1 : bookc b = 0
  · rw [if_neg (by simp [h1])]
    by_cases h2 : findE b.en key < 0
    · rw [if_pos h2]
      exact (get_bad4 A n c X m k b key w hb h1 h2).mono fun e w' h => ⟨_, _, _, _, _, h.1, h.2⟩
    · rw [if_neg h2]
      obtain ⟨i, hi, hf⟩ : ∃ i : Nat, i < b.en.length ∧ findE b.en key = i := by
        rcases findE_cases b.en key with ⟨e, _⟩ | ⟨i, hi, e, hk⟩
        · rw [e] at h2; omega
        · exact ⟨i, hi, e⟩
      refine (get_yes A n c X m k b key w hb h1 i (by rw [← hb.length]; exact hi) hf).mono fun e w' h => ?_
      obtain ⟨A2, n2, c2, he, -, hm⟩ := getYes_lq h
      exact ⟨_, _, _, _, _, he, hm⟩
  · rw [if_pos h1]
    exact (get_bad1 A n c X m k b key w hb h1).mono fun e w' h => ⟨_, _, _, _, _, h.1, h.2⟩

end Go.Proofs.Ytdfacejepmolbaa
