/- Stable sorting as a function: what is sorted by a key, each key's own in their order, is isort. No program in sight. -/
import Derived.Test.YtphkckonnogjmaaPlainV
namespace Go.Proofs.Ytphkckonnogjmaa.Stb
set_option linter.unusedVariables false
set_option linter.unusedSectionVars false
variable {α : Type}

def sins (key : α → Int) (x : α) : List α → List α
  | [] => [x]
  | y :: ys => if key x ≤ key y then x :: y :: ys else y :: sins key x ys
def isort (key : α → Int) : List α → List α
  | [] => []
  | x :: xs => sins key x (isort key xs)
variable {key : α → Int}
theorem mem_sins {x z : α} {ys : List α} : z ∈ sins key x ys ↔ z = x ∨ z ∈ ys := by
  induction ys with
  | nil => simp [sins]
  | cons y ys ih =>
    unfold sins
    split
    · simp
    · simp only [List.mem_cons, ih]
      constructor
      · rintro (h | h | h)
        · exact .inr (.inl h)
        · exact .inl h
        · exact .inr (.inr h)
      · rintro (h | h | h)
        · exact .inr (.inl h)
        · exact .inl h
        · exact .inr (.inr h)
theorem srt_sins {x : α} {ys : List α} (h : Srt key ys) : Srt key (sins key x ys) := by
  induction ys with
  | nil => simp [sins, Srt]
  | cons y ys ih =>
    unfold Srt at h
    rw [List.pairwise_cons] at h
    unfold sins
    split
    · rename_i c
      unfold Srt
      rw [List.pairwise_cons, List.pairwise_cons]
      refine ⟨fun z hz => ?_, h.1, h.2⟩
      rcases List.mem_cons.1 hz with rfl | hz
      · exact c
      · have := h.1 z hz; omega
    · rename_i c
      unfold Srt
      rw [List.pairwise_cons]
      refine ⟨fun z hz => ?_, ih h.2⟩
      rcases mem_sins.1 hz with rfl | hz
      · omega
      · exact h.1 z hz
theorem same_sins {x : α} {ys : List α} : Same key (sins key x ys) (x :: ys) := by
  induction ys with
  | nil => exact Same.refl _
  | cons y ys ih =>
    unfold sins
    split
    · exact Same.refl _
    · rename_i c
      refine (Same.append (a := [y]) (b := [y]) (Same.refl _) ih).trans ?_
      exact Same.append (a := [y] ++ [x]) (b := [x] ++ [y]) (c := ys) (d := ys) (Same.swap (X := [x]) (Y := [y]) fun p hp q hq => by simp at hp hq; subst hp hq; omega).symm (Same.refl _)
theorem isort_srt (xs : List α) : Srt key (isort key xs) := by
  induction xs with
  | nil => exact List.Pairwise.nil
  | cons x xs ih => exact srt_sins ih
theorem isort_same (xs : List α) : Same key (isort key xs) xs := by
  induction xs with
  | nil => exact Same.refl _
  | cons x xs ih => exact same_sins.trans (Same.append (a := [x]) (b := [x]) (Same.refl _) ih)
theorem isort_eq {xs ys : List α} (h1 : Srt key ys) (h2 : Same key ys xs) : ys = isort key xs :=
  Srt.unique h1 (isort_srt xs) (h2.trans (isort_same xs).symm)
theorem isort_of_srt {xs : List α} (h : Srt key xs) : isort key xs = xs := (isort_eq h (Same.refl _)).symm
theorem sins_len (x : α) (ys : List α) : (sins key x ys).length = ys.length + 1 := by
  induction ys with
  | nil => rfl
  | cons y ys ih => unfold sins; split <;> simp [ih]
theorem isort_len (xs : List α) : (isort key xs).length = xs.length := by
  induction xs with
  | nil => rfl
  | cons x xs ih => show (sins key x (isort key xs)).length = _; rw [sins_len, ih]; rfl
theorem sins_perm (x : α) (ys : List α) : (sins key x ys).Perm (x :: ys) := by
  induction ys with
  | nil => exact List.Perm.refl _
  | cons y ys ih =>
    unfold sins
    split
    · exact List.Perm.refl _
    · exact (List.Perm.cons y ih).trans (List.Perm.swap x y ys)
theorem isort_perm (xs : List α) : (isort key xs).Perm xs := by
  induction xs with
  | nil => exact List.Perm.refl _
  | cons x xs ih => exact (sins_perm x _).trans (List.Perm.cons x ih)

end Go.Proofs.Ytphkckonnogjmaa.Stb
