/- The beginning that the laws of trial share: a book of one sale. -/
import Derived.Test.YtpgefclnplmlkaaTriA
namespace Go.Proofs.Ytpgefclnplmlkaa
open Go.ChangeShapes Go.WideShapes Go.ChangeAt Go.RowKit Go.PlainAid
set_option linter.unusedVariables false

/-- the book of one sale -/
def oneB : Bok := postb plainB (saleE ka 5 7)
theorem one_look : lookc oneB 5 = 0 ∧ posS oneB 5 = 7 ∧ negS oneB 5 = 7 ∧ lookc oneB 0 = 0 ∧ oneB.shut = -1 := by decide +kernel

end Go.Proofs.Ytpgefclnplmlkaa
