/- The walk of talkeep.bookBegun. -/
import Derived.Test.YtdfacejepmolbaaBookO
import Derived.Test.YtdfacejepmolbaaLnA
import Derived.BigRegion
namespace Go.Proofs.Ytdfacejepmolbaa
open Go.ChangeShapes Go.WideShapes Go.ChangeAt Go.RowKit Go.PlainAid
set_option linter.unusedVariables false

/-- what Post answers, be it refused or not -/
theorem postYes_bq {w w' : World} {b : Bok} {e : Ending} (h : PostYes w b e w') : ∃ A n c X m k, e = .returned (.tuple #[bv A n c X m k b.shut, .int .i64 0]) ∧ Bq w' A n c X m k b ∧ OwnB w' w.heap.size (.slice A n c) (.slice X m k) n m b ∧ Mor w w' := by
  obtain ⟨A, n, c, X, m, k, he, ho, hm⟩ := h
  obtain ⟨A', c', X', k', e1, e2, hb⟩ := ho.bq
  injection e1 with e1 _ e3
  injection e2 with e4 _ e6
  subst e1 e3 e4 e6
  exact ⟨A, n, c, X, m, k, he, hb, ho, hm⟩
theorem lq_two {w : World} {g : Nat} {a b : ByteArray} {m n : Int} (h : Si w (some ⟨g, 0, none⟩) [(a, m), (b, n)]) (ha : a.size ≤ maxLen) (hb : b.size ≤ maxLen) : Lq w (some ⟨g, 0, none⟩) 2 2 [(a, m), (b, n)] :=
  ⟨h, rfl, Nat.le_refl _, by unfold maxLen; omega, (fun h => by cases h), fun i hi => by
    match i, hi with
    | 0, _ => exact ha
    | 1, _ => exact hb⟩
theorem two_max : (2 : Nat) ≤ maxLen := by unfold maxLen; omega
theorem one_max : (1 : Nat) ≤ maxLen := by unfold maxLen; omega

/-- a book's variable -/
theorem bk_book (w : World) (A : Option Addr) (n c : Nat) (X : Option Addr) (m k : Nat) (s : Int) {w' : World} (h : Mor (w.alloc (.cells #[.slice A n c, .slice X m k, .int .i64 s] 25)) w') :
    w'.cell? ⟨w.heap.size, 0, none⟩ = some (.slice A n c) ∧ w'.cell? ⟨w.heap.size, 1, none⟩ = some (.slice X m k) ∧ w'.cell? ⟨w.heap.size, 2, none⟩ = some (.int .i64 s) ∧ w.heap.size < w'.heap.size := by
  have hb := (Bk.new w 25 #[.slice A n c, .slice X m k, .int .i64 s]).mor h
  exact ⟨by rw [hb.cell]; rfl, by rw [hb.cell]; rfl, by rw [hb.cell]; rfl, hb.lt⟩

end Go.Proofs.Ytdfacejepmolbaa
