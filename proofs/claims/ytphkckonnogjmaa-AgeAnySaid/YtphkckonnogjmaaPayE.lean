/- What the laws of paying share. -/
import Derived.Test.YtphkckonnogjmaaPayD
import Derived.Test.YtphkckonnogjmaaWithinA
namespace Go.Proofs.Ytphkckonnogjmaa
open Go.ChangeShapes Go.WideShapes Go.ChangeAt Go.RowKit Stb
set_option linter.unusedVariables false

theorem owed_tot (A : Option Addr) (n cap : Nat) (xs : List Pr) (w : World) (hr : Pi w A xs) (hn : xs.length = n) (hl : n ≤ 40) (ho : ∀ p ∈ xs, okP p) :
    Calls Try.prog 18 #[.slice A n cap] w fun e w' => e = .returned (.int .i64 (tot xs)) ∧ Mor w w' := by
  have h := owed_any A n cap xs w hr hn hl (fun k hk => by
    have := ho (ge xs k) (List.mem_of_getElem? (ge_some (by omega)))
    exact ⟨this.2.2.1, this.2.2.2⟩)
  rw [← hn, owd_tot, hn] at h
  exact h
theorem payc_zero {xs : List Pr} {a : Int} (h : payc xs a = 0) : xs.length ≤ 40 ∧ (∀ p ∈ xs, okP p) ∧ 0 ≤ a ∧ a ≤ 1000000000000 := by
  unfold payc at h
  split at h
  · rename_i h1; exact absurd h h1
  · rename_i h1
    have h2 := (itc_iff xs).1 (by omega)
    split at h
    · omega
    · exact ⟨h2.1, h2.2, by omega, by omega⟩
theorem payc_of {xs : List Pr} {a : Int} (h1 : xs.length ≤ 40) (h2 : ∀ p ∈ xs, okP p) (h3 : 0 ≤ a) (h4 : a ≤ 1000000000000) : payc xs a = 0 := by
  unfold payc
  rw [if_neg (by rw [(itc_iff xs).2 ⟨h1, h2⟩]; simp), if_neg (by omega)]
theorem left_ok {xs : List Pr} {a : Int} (h1 : xs.length ≤ 40) (h2 : ∀ p ∈ xs, okP p) (h3 : 0 ≤ a) : (pay (byDay xs) a).length ≤ 40 ∧ (∀ p ∈ pay (byDay xs) a, okP p) := by
  refine ⟨?_, pay_ok h3 (byDay_ok h2)⟩
  have := pay_len (byDay xs) a
  have e : (byDay xs).length = xs.length := isort_len xs
  omega
theorem pi_lit {w : World} {b : Nat} {T : TypeId} (d a : Int) (hb : b = w.heap.size) : Pi (w.alloc (.cells #[.int .i64 d, .int .i64 a] T)) (some ⟨b, 0, none⟩) [(d, a)] := pi_new [(d, a)] hb rfl
theorem pi_lit2 {w : World} {b : Nat} {T : TypeId} (d a d' a' : Int) (hb : b = w.heap.size) : Pi (w.alloc (.cells #[.int .i64 d, .int .i64 a, .int .i64 d', .int .i64 a'] T)) (some ⟨b, 0, none⟩) [(d, a), (d', a')] := pi_new [(d, a), (d', a')] hb rfl
theorem tot_byDay (xs : List Pr) : tot (byDay xs) = tot xs := tot_perm (isort_perm xs)

end Go.Proofs.Ytphkckonnogjmaa
