/- The walks of talref.Same, talref.SameBook (of the same), talkeep.plain, day. -/
import Derived.Test.YtdfacejepmolbaaBookN
import Derived.Test.YtdfacejepmolbaaBookM
import Derived.Test.YtdfacejepmolbaaWithinA
namespace Go.Proofs.Ytdfacejepmolbaa
open Go.ChangeShapes Go.WideShapes Go.ChangeAt Go.RowKit Go.PlainAid
set_option linter.unusedVariables false

set_option maxHeartbeats 400000 in
theorem day_any (k : Int) (w : World) :
    Calls Try.prog 13 #[.int .i64 k] w fun e w' => e = .returned (.int .i64 (wi k 292194)) ∧ w = w' := by
  have HW := Lib.hid (fun w => within_any k 292194 w (by omega) (by omega))
  generalize wi k 292194 = r at *
  go_enter Try.func13, Try.ntmps13
  go_wp2_with (go_at_call 31; (with_reducible refine (HW.out _).mono ?_); rintro e w6 ⟨rfl, rfl⟩)
  go_ret
  exact ⟨rfl, rfl⟩

abbrev s20 : ByteArray := { data := #[50, 48] }
abbrev s30 : ByteArray := { data := #[51, 48] }
abbrev s50 : ByteArray := { data := #[53, 48] }
abbrev ka : ByteArray := { data := #[97] }
def plainB : Bok := ⟨[(s10, 0), (s20, 1), (s30, 2), (s40, 3), (s50, 4)], [], -1⟩
def saleE (key : ByteArray) (d n : Int) : En := ⟨key, d, [(s10, n), (s40, -n)]⟩
theorem plain_str : ∀ i, i < 5 → (cd plainB.ac i).size ≤ maxLen := by
  intro i hi
  match i, hi with
  | 0, _ | 1, _ | 2, _ | 3, _ | 4, _ => exact of_decide_eq_true (by decide)
set_option maxHeartbeats 1600000 in
theorem plain_any (w : World) :
    Calls Try.prog 8 #[] w fun e w' => ∃ g, e = .returned (bv (some ⟨g, 0, none⟩) 5 5 none 0 0 (-1)) ∧ Bq w' (some ⟨g, 0, none⟩) 5 5 none 0 0 plainB ∧ Mor w w' := by
  go_enter Try.func8, Try.ntmps8
  go_wp2_with fail
  go_returns
  refine ⟨w.heap.size + 1, rfl, ⟨⟨Si.of_rd (Rd.new (flat pc plainB.ac) (sz1 _ _) ?_), rfl, Nat.le_refl _, by unfold maxLen; omega, (fun h => by cases h), plain_str⟩, .inl rfl, rfl, Nat.le_refl _, by unfold maxLen; omega, fun _ => rfl⟩, (Mor.refl _).alloc.alloc⟩
  simp [flat, pc, plainB]

theorem plain_post (n : Int) (h1 : n = 7) : postc plainB (saleE ka 5 n) = 0 := by subst h1; decide +kernel
theorem plain_bal : balv (postb plainB (saleE ka 5 7)) s40 5 = -7 ∧ balc (postb plainB (saleE ka 5 7)) s40 5 = 0 ∧ (postb plainB (saleE ka 5 7)).en.length = 1 ∧ bookc (postb plainB (saleE ka 5 7)) = 0 := by decide +kernel

end Go.Proofs.Ytdfacejepmolbaa
