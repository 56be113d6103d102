/- The plain law of books: entries in order, what is posted, balances. No program in sight (but for the order of strings). -/
import Derived.Test.YtahegjhjonodlaaDoorPItemsOwnZ1
import Derived.Test.YtahegjhjonodlaaDoorPItemsOwnZ3
import Derived.Test.YtahegjhjonodlaaDoorPItemsOwnZ23
import Derived.Test.YtahegjhjonodlaaDoorPItemsOwnZ24
import Derived.Test.YtahegjhjonodlaaDoorPItemsOwnZ25
import Derived.Test.YtahegjhjonodlaaDoorPItemsOwnZ26
import Derived.Test.YtahegjhjonodlaaDoorRows
import Derived.BigQuiet
import Derived.DataElems
import Derived.Deep.LoopGhost
import Derived.Deep.QuietTactic
import Derived.Handy
import Derived.Laws.Cover1
import Derived.Lib.Bytealg
import Derived.Lib.Hide
import Derived.OpenShut
import Derived.Outline
import Derived.PlainAid
import Derived.ProofKit
import Derived.RegionTactic
import Derived.Shelf.Abstract
import Derived.Sort.Walk0
import Derived.WalkKit
namespace Go.Proofs.YtahegjhjonodlaaDoor
open Go Go.PlainAid
set_option linter.unusedVariables false
set_option maxRecDepth 100000

/-- an entry -/
structure En where
  key : ByteArray
  day : Int
  ls : List Ln
/-- a book -/
structure Bok where
  ac : List Ln
  en : List En
  shut : Int
theorem En.eq {x y : En} (h1 : x.key = y.key) (h2 : x.day = y.day) (h3 : x.ls = y.ls) : x = y := by
  cases x; cases y; simp at h1 h2 h3; subst h1 h2 h3; rfl
instance : DecidableEq En := fun x y => if h : x.key = y.key ∧ x.day = y.day ∧ x.ls = y.ls then isTrue (En.eq h.1 h.2.1 h.2.2) else isFalse (fun e => h (by subst e; exact ⟨rfl, rfl, rfl⟩))
def en0 : En := ⟨ByteArray.empty, 0, []⟩
def ne (es : List En) (i : Nat) : En := es.getD i en0
theorem ne_eq (es : List En) (i : Nat) (h : i < es.length) : ne es i = es[i] := by
  unfold ne; rw [List.getD_eq_getElem?_getD, List.getElem?_eq_getElem h]; rfl

/- the order of strings -/
/-- an entry ahead of another one -/
def elt (x y : En) : Prop := x.day < y.day ∨ x.day = y.day ∧ ltB x.key y.key = true
instance (x y : En) : Decidable (elt x y) := by unfold elt; infer_instance
/- what may be -/
def enc (x : En) : Int := entc x.key x.day x.ls
/-- the first i below n with p -/
def fidx (p : Nat → Bool) : Nat → Nat → Int
  | _, 0 => -1
  | i, n + 1 => if p i then (i : Int) else fidx p (i + 1) n
theorem fidx_spec (p : Nat → Bool) (n i : Nat) : (fidx p i n = -1 ∧ ∀ j, i ≤ j → j < i + n → p j = false) ∨ ∃ k : Nat, fidx p i n = k ∧ i ≤ k ∧ k < i + n ∧ p k = true ∧ ∀ j, i ≤ j → j < k → p j = false := by
  induction n generalizing i with
  | zero => exact .inl ⟨rfl, fun j h1 h2 => absurd h2 (by omega)⟩
  | succ n ih =>
    unfold fidx
    cases h : p i
    · rw [if_neg (by simp)]
      rcases ih (i + 1) with ⟨e, hn⟩ | ⟨k, e, h1, h2, h3, h4⟩
      · refine .inl ⟨e, fun j hj hj2 => ?_⟩
        by_cases e : j = i
        · subst e; exact h
        · exact hn j (by omega) (by omega)
      · refine .inr ⟨k, e, by omega, by omega, h3, fun j hj hj2 => ?_⟩
        by_cases e : j = i
        · subst e; exact h
        · exact h4 j (by omega) (by omega)
    · rw [if_pos rfl]
      exact .inr ⟨i, rfl, by omega, by omega, h, fun j h1 h2 => absurd h2 (by omega)⟩
/- what is posted -/
end Go.Proofs.YtahegjhjonodlaaDoor
