/- A slice of pairs that came in: its datum has as many elements. -/
import Derived.Test.YtnahbblglalagaaPairs
namespace Go.Proofs.Ytnahbblglalagaa
open Go.ChangeShapes Go.WideShapes Go.ChangeAt Go.RowKit
set_option linter.unusedVariables false

theorem pr_size {H : Type} {enc : TypeId × Value → H} {P : Program} {T E : TypeId} {f0 f1 : Field} {w : World} {base : Nat} {spare : Nat → Bool} {held : Bool} {fuel : Nat} {a : Option Addr} {len cap : Nat} {d : DataW H} {p : List MemPlace}
    (ht : P.underlying T = some (.slice E)) (he : P.underlying E = some (.struct #[f0, f1])) (ce : P.cellsOf E = 2) (o0 : f0.offset = 0) (o1 : f1.offset = 1) (c0 : P.cellsOf f0.type = 1) (c1 : P.cellsOf f1.type = 1)
    (h : DataW.trod enc P w base spare held fuel T [.slice a len cap] = some (d, p)) : len = 0 ∨ ∃ elems sp, d = .slice elems sp ∧ elems.length = len := by
  rcases Deep.open_slice_pairs ht he ce o0 o1 c0 c1 h with ⟨hc, _⟩ | ⟨a', len', cap', m, n, V0, V1, D0, D1, P0, P1, hc, _, hl, hm, hmm, hx, _⟩
  · left
    simp at hc
    exact hc.2.1
  · right
    simp at hc
    obtain ⟨_, rfl, _⟩ := hc
    injection hx with hx _
    exact ⟨_, _, hx, by simp⟩

end Go.Proofs.Ytnahbblglalagaa
