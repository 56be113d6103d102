/-
  No cell of these rows narrows 'for every input' (looked for: loops, veiled, ifaces, maps, wideKeys, modest, calm, conditions, laid).
  DERIVED. THE GIVEN ROWS OF THIS SEAT. 12 by the template 'for every input the law returns true; each argument reads behind the call as it read before'; 0 by the template 'total and deterministic' (their statements: YtpgefclnplmlkaaTotals.lean).
  GIVEN WITH THE SEED: the statements are not yours to turn. If you find one false, say at which input.
  Laid BY PROGRAM, IN A SANDBOX (cutbox-rows.mjs): the forced cells as the released guide's own fill.sh prints them over the translation 8865cbe99bf3584b… (all of the seat's roots in one cut). By AI agents, Wed Nov 11 2026. No macro, syntax, notation, axiom, sorry.
-/
import Derived.Test.YtpgefclnplmlkaaChecked
import GoSem.Claim
import GoSem.ClaimJoined
import GoSem.ClaimMapViews
import Derived.JoinedTies
import Derived.KernelRfl
namespace Go.Proofs.Ytpgefclnplmlkaa
/- THE CELL 'sum', in the pinned program and in every row, IS THE sha256 OF THE DUMP (.gsa) THAT YtpgefclnplmlkaaProg.lean LOADS. Nothing in Lean hashes anything: it is a label: what it is worth is what the hold of that sum in a sandbox is worth. -/
noncomputable def Try.pinned : Pinned := { name := "ytpgefclnplmlkaa", sum := "8865cbe99bf3584bb859cb7450c4b60615d48189215dc51569cd8f04638e6c54", checked := Try.checked }
namespace Rows
def none {H : Type} : Left H := { results := [], args := [] }

/-- 'talkeep.BookShutTwice': WHATEVER THE INPUT: true; the input reads as it did. -/
def bookShutTwiceSpec : ChangeSpec := { name := "bookShutTwice", fn := fun _ => fun
  | [d1, d2, d3] => { results := [.lit (.bool true)], args := [d1, d2, d3] }
  | _ => none }
def bookShutTwiceRow : OpenClaim := { program := "ytpgefclnplmlkaa", sum := "8865cbe99bf3584bb859cb7450c4b60615d48189215dc51569cd8f04638e6c54", func := "tallage/talkeep.BookShutTwice", spec := "bookShutTwice", inPlace := ["internal/bytealg.abigen_runtime_cmpstring"], unfollowed := true, recurses := true, apart := false }
def BookShutTwiceSaid : Prop := bookShutTwiceRow.holds Try.pinned (OpenSpec.ofChange bookShutTwiceSpec)

/-- ITS FALSE NEIGHBOUR: 'it returns false'. Refute it at one input. -/
def bookShutTwiceWrong : ChangeSpec := { name := "bookShutTwice", fn := fun _ => fun
  | [d1, d2, d3] => { results := [.lit (.bool false)], args := [d1, d2, d3] }
  | _ => none }
def BookShutTwiceWrongFalsely : Prop := bookShutTwiceRow.holds Try.pinned (OpenSpec.ofChange bookShutTwiceWrong)

/-- 'talkeep.BookZero': WHATEVER THE INPUT: true; the input reads as it did. -/
def bookZeroSpec : ChangeSpec := { name := "bookZero", fn := fun _ => fun
  | [d1, d2] => { results := [.lit (.bool true)], args := [d1, d2] }
  | _ => none }
def bookZeroRow : OpenClaim := { program := "ytpgefclnplmlkaa", sum := "8865cbe99bf3584bb859cb7450c4b60615d48189215dc51569cd8f04638e6c54", func := "tallage/talkeep.BookZero", spec := "bookZero", inPlace := ["internal/bytealg.abigen_runtime_cmpstring", "slices.overlaps[tallage/api.Entry]"], unfollowed := true, recurses := true, apart := false }
def BookZeroSaid : Prop := bookZeroRow.holds Try.pinned (OpenSpec.ofChange bookZeroSpec)

/-- ITS FALSE NEIGHBOUR: 'it returns false'. Refute it at one input. -/
def bookZeroWrong : ChangeSpec := { name := "bookZero", fn := fun _ => fun
  | [d1, d2] => { results := [.lit (.bool false)], args := [d1, d2] }
  | _ => none }
def BookZeroWrongFalsely : Prop := bookZeroRow.holds Try.pinned (OpenSpec.ofChange bookZeroWrong)

/-- 'talkeep.BookAdds': WHATEVER THE INPUT: true; the input reads as it did. -/
def bookAddsSpec : ChangeSpec := { name := "bookAdds", fn := fun _ => fun
  | [d1, d2, d3, d4] => { results := [.lit (.bool true)], args := [d1, d2, d3, d4] }
  | _ => none }
def bookAddsRow : OpenClaim := { program := "ytpgefclnplmlkaa", sum := "8865cbe99bf3584bb859cb7450c4b60615d48189215dc51569cd8f04638e6c54", func := "tallage/talkeep.BookAdds", spec := "bookAdds", inPlace := ["internal/bytealg.abigen_runtime_cmpstring", "slices.overlaps[tallage/api.Entry]"], unfollowed := true, recurses := true, apart := false }
def BookAddsSaid : Prop := bookAddsRow.holds Try.pinned (OpenSpec.ofChange bookAddsSpec)

/-- ITS FALSE NEIGHBOUR: 'it returns false'. Refute it at one input. -/
def bookAddsWrong : ChangeSpec := { name := "bookAdds", fn := fun _ => fun
  | [d1, d2, d3, d4] => { results := [.lit (.bool false)], args := [d1, d2, d3, d4] }
  | _ => none }
def BookAddsWrongFalsely : Prop := bookAddsRow.holds Try.pinned (OpenSpec.ofChange bookAddsWrong)

/-- 'talkeep.BookSteps': WHATEVER THE INPUT: true; the input reads as it did. -/
def bookStepsSpec : ChangeSpec := { name := "bookSteps", fn := fun _ => fun
  | [d1, d2, d3] => { results := [.lit (.bool true)], args := [d1, d2, d3] }
  | _ => none }
def bookStepsRow : OpenClaim := { program := "ytpgefclnplmlkaa", sum := "8865cbe99bf3584bb859cb7450c4b60615d48189215dc51569cd8f04638e6c54", func := "tallage/talkeep.BookSteps", spec := "bookSteps", inPlace := ["internal/bytealg.abigen_runtime_cmpstring", "slices.overlaps[tallage/api.Entry]"], unfollowed := true, recurses := true, apart := false }
def BookStepsSaid : Prop := bookStepsRow.holds Try.pinned (OpenSpec.ofChange bookStepsSpec)

/-- ITS FALSE NEIGHBOUR: 'it returns false'. Refute it at one input. -/
def bookStepsWrong : ChangeSpec := { name := "bookSteps", fn := fun _ => fun
  | [d1, d2, d3] => { results := [.lit (.bool false)], args := [d1, d2, d3] }
  | _ => none }
def BookStepsWrongFalsely : Prop := bookStepsRow.holds Try.pinned (OpenSpec.ofChange bookStepsWrong)

/-- 'talkeep.BookTwice': WHATEVER THE INPUT: true; the input reads as it did. -/
def bookTwiceSpec : ChangeSpec := { name := "bookTwice", fn := fun _ => fun
  | [d1, d2] => { results := [.lit (.bool true)], args := [d1, d2] }
  | _ => none }
def bookTwiceRow : OpenClaim := { program := "ytpgefclnplmlkaa", sum := "8865cbe99bf3584bb859cb7450c4b60615d48189215dc51569cd8f04638e6c54", func := "tallage/talkeep.BookTwice", spec := "bookTwice", inPlace := ["internal/bytealg.abigen_runtime_cmpstring", "slices.overlaps[tallage/api.Entry]"], unfollowed := true, recurses := true, apart := false }
def BookTwiceSaid : Prop := bookTwiceRow.holds Try.pinned (OpenSpec.ofChange bookTwiceSpec)

/-- ITS FALSE NEIGHBOUR: 'it returns false'. Refute it at one input. -/
def bookTwiceWrong : ChangeSpec := { name := "bookTwice", fn := fun _ => fun
  | [d1, d2] => { results := [.lit (.bool false)], args := [d1, d2] }
  | _ => none }
def BookTwiceWrongFalsely : Prop := bookTwiceRow.holds Try.pinned (OpenSpec.ofChange bookTwiceWrong)

/-- 'talkeep.BookOrder': WHATEVER THE INPUT: true; the input reads as it did. -/
def bookOrderSpec : ChangeSpec := { name := "bookOrder", fn := fun _ => fun
  | [d1, d2, d3] => { results := [.lit (.bool true)], args := [d1, d2, d3] }
  | _ => none }
def bookOrderRow : OpenClaim := { program := "ytpgefclnplmlkaa", sum := "8865cbe99bf3584bb859cb7450c4b60615d48189215dc51569cd8f04638e6c54", func := "tallage/talkeep.BookOrder", spec := "bookOrder", inPlace := ["internal/bytealg.abigen_runtime_cmpstring", "slices.overlaps[tallage/api.Entry]"], unfollowed := true, recurses := true, apart := false }
def BookOrderSaid : Prop := bookOrderRow.holds Try.pinned (OpenSpec.ofChange bookOrderSpec)

/-- ITS FALSE NEIGHBOUR: 'it returns false'. Refute it at one input. -/
def bookOrderWrong : ChangeSpec := { name := "bookOrder", fn := fun _ => fun
  | [d1, d2, d3] => { results := [.lit (.bool false)], args := [d1, d2, d3] }
  | _ => none }
def BookOrderWrongFalsely : Prop := bookOrderRow.holds Try.pinned (OpenSpec.ofChange bookOrderWrong)

/-- 'talkeep.BookLines': WHATEVER THE INPUT: true; the input reads as it did. -/
def bookLinesSpec : ChangeSpec := { name := "bookLines", fn := fun _ => fun
  | [d1, d2] => { results := [.lit (.bool true)], args := [d1, d2] }
  | _ => none }
def bookLinesRow : OpenClaim := { program := "ytpgefclnplmlkaa", sum := "8865cbe99bf3584bb859cb7450c4b60615d48189215dc51569cd8f04638e6c54", func := "tallage/talkeep.BookLines", spec := "bookLines", inPlace := ["internal/bytealg.abigen_runtime_cmpstring", "slices.overlaps[tallage/api.Entry]"], unfollowed := true, recurses := true, apart := false }
def BookLinesSaid : Prop := bookLinesRow.holds Try.pinned (OpenSpec.ofChange bookLinesSpec)

/-- ITS FALSE NEIGHBOUR: 'it returns false'. Refute it at one input. -/
def bookLinesWrong : ChangeSpec := { name := "bookLines", fn := fun _ => fun
  | [d1, d2] => { results := [.lit (.bool false)], args := [d1, d2] }
  | _ => none }
def BookLinesWrongFalsely : Prop := bookLinesRow.holds Try.pinned (OpenSpec.ofChange bookLinesWrong)

/-- 'talkeep.TrialEqual': WHATEVER THE INPUT: true; the input reads as it did. -/
def trialEqualSpec : ChangeSpec := { name := "trialEqual", fn := fun _ => fun
  | [d1, d2] => { results := [.lit (.bool true)], args := [d1, d2] }
  | _ => none }
def trialEqualRow : OpenClaim := { program := "ytpgefclnplmlkaa", sum := "8865cbe99bf3584bb859cb7450c4b60615d48189215dc51569cd8f04638e6c54", func := "tallage/talkeep.TrialEqual", spec := "trialEqual", inPlace := ["internal/bytealg.abigen_runtime_cmpstring", "slices.overlaps[tallage/api.Entry]"], unfollowed := true, recurses := true, apart := false }
def TrialEqualSaid : Prop := trialEqualRow.holds Try.pinned (OpenSpec.ofChange trialEqualSpec)

/-- ITS FALSE NEIGHBOUR: 'it returns false'. Refute it at one input. -/
def trialEqualWrong : ChangeSpec := { name := "trialEqual", fn := fun _ => fun
  | [d1, d2] => { results := [.lit (.bool false)], args := [d1, d2] }
  | _ => none }
def TrialEqualWrongFalsely : Prop := trialEqualRow.holds Try.pinned (OpenSpec.ofChange trialEqualWrong)

/-- 'talkeep.BookShut': WHATEVER THE INPUT: true; the input reads as it did. -/
def bookShutSpec : ChangeSpec := { name := "bookShut", fn := fun _ => fun
  | [d1, d2, d3, d4, d5] => { results := [.lit (.bool true)], args := [d1, d2, d3, d4, d5] }
  | _ => none }
def bookShutRow : OpenClaim := { program := "ytpgefclnplmlkaa", sum := "8865cbe99bf3584bb859cb7450c4b60615d48189215dc51569cd8f04638e6c54", func := "tallage/talkeep.BookShut", spec := "bookShut", inPlace := ["internal/bytealg.abigen_runtime_cmpstring", "slices.overlaps[tallage/api.Entry]"], unfollowed := true, recurses := true, apart := false }
def BookShutSaid : Prop := bookShutRow.holds Try.pinned (OpenSpec.ofChange bookShutSpec)

/-- ITS FALSE NEIGHBOUR: 'it returns false'. Refute it at one input. -/
def bookShutWrong : ChangeSpec := { name := "bookShut", fn := fun _ => fun
  | [d1, d2, d3, d4, d5] => { results := [.lit (.bool false)], args := [d1, d2, d3, d4, d5] }
  | _ => none }
def BookShutWrongFalsely : Prop := bookShutRow.holds Try.pinned (OpenSpec.ofChange bookShutWrong)

/-- 'talkeep.TrialSheet': WHATEVER THE INPUT: true; the input reads as it did. -/
def trialSheetSpec : ChangeSpec := { name := "trialSheet", fn := fun _ => fun
  | [d1, d2] => { results := [.lit (.bool true)], args := [d1, d2] }
  | _ => none }
def trialSheetRow : OpenClaim := { program := "ytpgefclnplmlkaa", sum := "8865cbe99bf3584bb859cb7450c4b60615d48189215dc51569cd8f04638e6c54", func := "tallage/talkeep.TrialSheet", spec := "trialSheet", inPlace := ["internal/bytealg.abigen_runtime_cmpstring", "slices.overlaps[tallage/api.Entry]"], unfollowed := true, recurses := true, apart := false }
def TrialSheetSaid : Prop := trialSheetRow.holds Try.pinned (OpenSpec.ofChange trialSheetSpec)

/-- ITS FALSE NEIGHBOUR: 'it returns false'. Refute it at one input. -/
def trialSheetWrong : ChangeSpec := { name := "trialSheet", fn := fun _ => fun
  | [d1, d2] => { results := [.lit (.bool false)], args := [d1, d2] }
  | _ => none }
def TrialSheetWrongFalsely : Prop := trialSheetRow.holds Try.pinned (OpenSpec.ofChange trialSheetWrong)

/-- 'talkeep.TrialAdds': WHATEVER THE INPUT: true; the input reads as it did. -/
def trialAddsSpec : ChangeSpec := { name := "trialAdds", fn := fun _ => fun
  | [d1, d2, d3, d4] => { results := [.lit (.bool true)], args := [d1, d2, d3, d4] }
  | _ => none }
def trialAddsRow : OpenClaim := { program := "ytpgefclnplmlkaa", sum := "8865cbe99bf3584bb859cb7450c4b60615d48189215dc51569cd8f04638e6c54", func := "tallage/talkeep.TrialAdds", spec := "trialAdds", inPlace := ["internal/bytealg.abigen_runtime_cmpstring", "slices.overlaps[tallage/api.Entry]"], unfollowed := true, recurses := true, apart := false }
def TrialAddsSaid : Prop := trialAddsRow.holds Try.pinned (OpenSpec.ofChange trialAddsSpec)

/-- ITS FALSE NEIGHBOUR: 'it returns false'. Refute it at one input. -/
def trialAddsWrong : ChangeSpec := { name := "trialAdds", fn := fun _ => fun
  | [d1, d2, d3, d4] => { results := [.lit (.bool false)], args := [d1, d2, d3, d4] }
  | _ => none }
def TrialAddsWrongFalsely : Prop := trialAddsRow.holds Try.pinned (OpenSpec.ofChange trialAddsWrong)

/-- 'talkeep.TrialParts': WHATEVER THE INPUT: true; the input reads as it did. -/
def trialPartsSpec : ChangeSpec := { name := "trialParts", fn := fun _ => fun
  | [d1, d2, d3, d4] => { results := [.lit (.bool true)], args := [d1, d2, d3, d4] }
  | _ => none }
def trialPartsRow : OpenClaim := { program := "ytpgefclnplmlkaa", sum := "8865cbe99bf3584bb859cb7450c4b60615d48189215dc51569cd8f04638e6c54", func := "tallage/talkeep.TrialParts", spec := "trialParts", inPlace := ["internal/bytealg.abigen_runtime_cmpstring", "slices.overlaps[tallage/api.Entry]"], unfollowed := true, recurses := true, apart := false }
def TrialPartsSaid : Prop := trialPartsRow.holds Try.pinned (OpenSpec.ofChange trialPartsSpec)

/-- ITS FALSE NEIGHBOUR: 'it returns false'. Refute it at one input. -/
def trialPartsWrong : ChangeSpec := { name := "trialParts", fn := fun _ => fun
  | [d1, d2, d3, d4] => { results := [.lit (.bool false)], args := [d1, d2, d3, d4] }
  | _ => none }
def TrialPartsWrongFalsely : Prop := trialPartsRow.holds Try.pinned (OpenSpec.ofChange trialPartsWrong)

/- THE SECOND FORM. 'bulk': how many values and letters a reading holds, each counted each time it is reached (what is shared counts as often as it is met; a slice's spare places count too). A statement '..UptoSaid' is the law's where the arguments, and the package variables that the reading takes, are together of bulk at most 1048576: NARROWER than '..Said'. Prove '..Said' where nothing that the law and all that it calls make is longer than what came in: it says more and counts as full. Else prove '..UptoSaid'. A law counts once. -/
mutual
def uptoBulk {H : Type} : DataW H → Nat
  | .lit (.string bytes) => bytes.length + 1
  | .lit _ => 1
  | .nil => 1
  | .ptr d => uptoBulk d + 1
  | .slice elems spare => uptoBulkAll elems + uptoBulkAll spare + 1
  | .agg parts => uptoBulkAll parts + 1
  | .iface _ d => uptoBulk d + 1
  | .map entries => uptoBulkEntries entries + 1
  | .held _ => 1
def uptoBulkAll {H : Type} : List (DataW H) → Nat
  | [] => 0
  | d :: r => uptoBulk d + uptoBulkAll r
def uptoBulkEntries {H : Type} : List (Lit × DataW H) → Nat
  | [] => 0
  | x :: r => uptoBulkEntry x + uptoBulkEntries r
def uptoBulkEntry {H : Type} : Lit × DataW H → Nat
  | (.string bytes, d) => bytes.length + uptoBulk d + 1
  | (_, d) => uptoBulk d + 1
 end
def uptoSmall : (H : Type) → List (DataW H) → Bool := fun _ ds => decide (uptoBulkAll ds ≤ 1048576)
def OpenSpec.upto (s : _root_.Go.ChangeSpec) : _root_.Go.OpenSpec := { _root_.Go.OpenSpec.ofChange s with cond := some uptoSmall }

/-- 'talkeep.BookShutTwice', WHERE WHAT IT READS IS OF BULK AT MOST 1048576: true; the input reads as it did. -/
def bookShutTwiceUptoRow : OpenClaim := { program := "ytpgefclnplmlkaa", sum := "8865cbe99bf3584bb859cb7450c4b60615d48189215dc51569cd8f04638e6c54", func := "tallage/talkeep.BookShutTwice", spec := "bookShutTwice", inPlace := ["internal/bytealg.abigen_runtime_cmpstring"], unfollowed := true, recurses := true, apart := false, narrowed := true }
def BookShutTwiceUptoSaid : Prop := bookShutTwiceUptoRow.holds Try.pinned (OpenSpec.upto bookShutTwiceSpec)

/-- 'talkeep.BookZero', WHERE WHAT IT READS IS OF BULK AT MOST 1048576: true; the input reads as it did. -/
def bookZeroUptoRow : OpenClaim := { program := "ytpgefclnplmlkaa", sum := "8865cbe99bf3584bb859cb7450c4b60615d48189215dc51569cd8f04638e6c54", func := "tallage/talkeep.BookZero", spec := "bookZero", inPlace := ["internal/bytealg.abigen_runtime_cmpstring", "slices.overlaps[tallage/api.Entry]"], unfollowed := true, recurses := true, apart := false, narrowed := true }
def BookZeroUptoSaid : Prop := bookZeroUptoRow.holds Try.pinned (OpenSpec.upto bookZeroSpec)

/-- 'talkeep.BookAdds', WHERE WHAT IT READS IS OF BULK AT MOST 1048576: true; the input reads as it did. -/
def bookAddsUptoRow : OpenClaim := { program := "ytpgefclnplmlkaa", sum := "8865cbe99bf3584bb859cb7450c4b60615d48189215dc51569cd8f04638e6c54", func := "tallage/talkeep.BookAdds", spec := "bookAdds", inPlace := ["internal/bytealg.abigen_runtime_cmpstring", "slices.overlaps[tallage/api.Entry]"], unfollowed := true, recurses := true, apart := false, narrowed := true }
def BookAddsUptoSaid : Prop := bookAddsUptoRow.holds Try.pinned (OpenSpec.upto bookAddsSpec)

/-- 'talkeep.BookSteps', WHERE WHAT IT READS IS OF BULK AT MOST 1048576: true; the input reads as it did. -/
def bookStepsUptoRow : OpenClaim := { program := "ytpgefclnplmlkaa", sum := "8865cbe99bf3584bb859cb7450c4b60615d48189215dc51569cd8f04638e6c54", func := "tallage/talkeep.BookSteps", spec := "bookSteps", inPlace := ["internal/bytealg.abigen_runtime_cmpstring", "slices.overlaps[tallage/api.Entry]"], unfollowed := true, recurses := true, apart := false, narrowed := true }
def BookStepsUptoSaid : Prop := bookStepsUptoRow.holds Try.pinned (OpenSpec.upto bookStepsSpec)

/-- 'talkeep.BookTwice', WHERE WHAT IT READS IS OF BULK AT MOST 1048576: true; the input reads as it did. -/
def bookTwiceUptoRow : OpenClaim := { program := "ytpgefclnplmlkaa", sum := "8865cbe99bf3584bb859cb7450c4b60615d48189215dc51569cd8f04638e6c54", func := "tallage/talkeep.BookTwice", spec := "bookTwice", inPlace := ["internal/bytealg.abigen_runtime_cmpstring", "slices.overlaps[tallage/api.Entry]"], unfollowed := true, recurses := true, apart := false, narrowed := true }
def BookTwiceUptoSaid : Prop := bookTwiceUptoRow.holds Try.pinned (OpenSpec.upto bookTwiceSpec)

/-- 'talkeep.BookOrder', WHERE WHAT IT READS IS OF BULK AT MOST 1048576: true; the input reads as it did. -/
def bookOrderUptoRow : OpenClaim := { program := "ytpgefclnplmlkaa", sum := "8865cbe99bf3584bb859cb7450c4b60615d48189215dc51569cd8f04638e6c54", func := "tallage/talkeep.BookOrder", spec := "bookOrder", inPlace := ["internal/bytealg.abigen_runtime_cmpstring", "slices.overlaps[tallage/api.Entry]"], unfollowed := true, recurses := true, apart := false, narrowed := true }
def BookOrderUptoSaid : Prop := bookOrderUptoRow.holds Try.pinned (OpenSpec.upto bookOrderSpec)

/-- 'talkeep.BookLines', WHERE WHAT IT READS IS OF BULK AT MOST 1048576: true; the input reads as it did. -/
def bookLinesUptoRow : OpenClaim := { program := "ytpgefclnplmlkaa", sum := "8865cbe99bf3584bb859cb7450c4b60615d48189215dc51569cd8f04638e6c54", func := "tallage/talkeep.BookLines", spec := "bookLines", inPlace := ["internal/bytealg.abigen_runtime_cmpstring", "slices.overlaps[tallage/api.Entry]"], unfollowed := true, recurses := true, apart := false, narrowed := true }
def BookLinesUptoSaid : Prop := bookLinesUptoRow.holds Try.pinned (OpenSpec.upto bookLinesSpec)

/-- 'talkeep.TrialEqual', WHERE WHAT IT READS IS OF BULK AT MOST 1048576: true; the input reads as it did. -/
def trialEqualUptoRow : OpenClaim := { program := "ytpgefclnplmlkaa", sum := "8865cbe99bf3584bb859cb7450c4b60615d48189215dc51569cd8f04638e6c54", func := "tallage/talkeep.TrialEqual", spec := "trialEqual", inPlace := ["internal/bytealg.abigen_runtime_cmpstring", "slices.overlaps[tallage/api.Entry]"], unfollowed := true, recurses := true, apart := false, narrowed := true }
def TrialEqualUptoSaid : Prop := trialEqualUptoRow.holds Try.pinned (OpenSpec.upto trialEqualSpec)

/-- 'talkeep.BookShut', WHERE WHAT IT READS IS OF BULK AT MOST 1048576: true; the input reads as it did. -/
def bookShutUptoRow : OpenClaim := { program := "ytpgefclnplmlkaa", sum := "8865cbe99bf3584bb859cb7450c4b60615d48189215dc51569cd8f04638e6c54", func := "tallage/talkeep.BookShut", spec := "bookShut", inPlace := ["internal/bytealg.abigen_runtime_cmpstring", "slices.overlaps[tallage/api.Entry]"], unfollowed := true, recurses := true, apart := false, narrowed := true }
def BookShutUptoSaid : Prop := bookShutUptoRow.holds Try.pinned (OpenSpec.upto bookShutSpec)

/-- 'talkeep.TrialSheet', WHERE WHAT IT READS IS OF BULK AT MOST 1048576: true; the input reads as it did. -/
def trialSheetUptoRow : OpenClaim := { program := "ytpgefclnplmlkaa", sum := "8865cbe99bf3584bb859cb7450c4b60615d48189215dc51569cd8f04638e6c54", func := "tallage/talkeep.TrialSheet", spec := "trialSheet", inPlace := ["internal/bytealg.abigen_runtime_cmpstring", "slices.overlaps[tallage/api.Entry]"], unfollowed := true, recurses := true, apart := false, narrowed := true }
def TrialSheetUptoSaid : Prop := trialSheetUptoRow.holds Try.pinned (OpenSpec.upto trialSheetSpec)

/-- 'talkeep.TrialAdds', WHERE WHAT IT READS IS OF BULK AT MOST 1048576: true; the input reads as it did. -/
def trialAddsUptoRow : OpenClaim := { program := "ytpgefclnplmlkaa", sum := "8865cbe99bf3584bb859cb7450c4b60615d48189215dc51569cd8f04638e6c54", func := "tallage/talkeep.TrialAdds", spec := "trialAdds", inPlace := ["internal/bytealg.abigen_runtime_cmpstring", "slices.overlaps[tallage/api.Entry]"], unfollowed := true, recurses := true, apart := false, narrowed := true }
def TrialAddsUptoSaid : Prop := trialAddsUptoRow.holds Try.pinned (OpenSpec.upto trialAddsSpec)

/-- 'talkeep.TrialParts', WHERE WHAT IT READS IS OF BULK AT MOST 1048576: true; the input reads as it did. -/
def trialPartsUptoRow : OpenClaim := { program := "ytpgefclnplmlkaa", sum := "8865cbe99bf3584bb859cb7450c4b60615d48189215dc51569cd8f04638e6c54", func := "tallage/talkeep.TrialParts", spec := "trialParts", inPlace := ["internal/bytealg.abigen_runtime_cmpstring", "slices.overlaps[tallage/api.Entry]"], unfollowed := true, recurses := true, apart := false, narrowed := true }
def TrialPartsUptoSaid : Prop := trialPartsUptoRow.holds Try.pinned (OpenSpec.upto trialPartsSpec)

end Rows
end Go.Proofs.Ytpgefclnplmlkaa
