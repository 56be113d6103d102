/- The walk of talkeep.cost. -/
import Derived.Test.YtnahbblglalagaaStockH
namespace Go.Proofs.Ytnahbblglalagaa
open Go.ChangeShapes Go.WideShapes Go.ChangeAt Go.RowKit Stb
set_option linter.unusedVariables false

theorem cnt_take (xs : List Pr) (k : Nat) (h : k < xs.length) : cnt (xs.take (k + 1)) = cnt (xs.take k) + (ge xs k).1 ∧ cst (xs.take (k + 1)) = cst (xs.take k) + (ge xs k).2 := by
  have e : xs[k] = ge xs k := by have := ge_some h; rw [List.getElem?_eq_getElem h] at this; injection this
  rw [List.take_succ_eq_append_getElem h, cnt_snoc, cst_snoc, e]
  exact ⟨rfl, rfl⟩

end Go.Proofs.Ytnahbblglalagaa
