/-
  No cell of these rows narrows 'for every input' (looked for: loops, veiled, ifaces, maps, wideKeys, modest, calm, conditions, laid).
  DERIVED. THE GIVEN ROWS OF THIS SEAT. 12 by the template 'for every input the law returns true; each argument reads behind the call as it read before'; 0 by the template 'total and deterministic' (their statements: YtmkmbfficpgmdaaTotals.lean).
  GIVEN WITH THE SEED: the statements are not yours to turn. If you find one false, say at which input.
  Laid BY PROGRAM, IN A SANDBOX (cutbox-rows.mjs): the forced cells as the released guide's own fill.sh prints them over the translation 38cf5049df0bd661… (all of the seat's roots in one cut). By AI agents, Wed Nov 11 2026. No macro, syntax, notation, axiom, sorry.
-/
import Derived.Test.YtmkmbfficpgmdaaChecked
import GoSem.Claim
import GoSem.ClaimJoined
import GoSem.ClaimMapViews
import Derived.JoinedTies
import Derived.KernelRfl
namespace Go.Proofs.Ytmkmbfficpgmdaa
/- THE CELL 'sum', in the pinned program and in every row, IS THE sha256 OF THE DUMP (.gsa) THAT YtmkmbfficpgmdaaProg.lean LOADS. Nothing in Lean hashes anything: it is a label: what it is worth is what the hold of that sum in a sandbox is worth. -/
noncomputable def Try.pinned : Pinned := { name := "ytmkmbfficpgmdaa", sum := "38cf5049df0bd6611696f50e6c0b003561c3da13d5aae91dc02ff413de550213", checked := Try.checked }
namespace Rows
def none {H : Type} : Left H := { results := [], args := [] }

/-- 'talkeep.SplitAhead': WHATEVER THE INPUT: true; the input reads as it did. -/
def splitAheadSpec : ChangeSpec := { name := "splitAhead", fn := fun _ => fun
  | [d1, d2, d3] => { results := [.lit (.bool true)], args := [d1, d2, d3] }
  | _ => none }
def splitAheadRow : OpenClaim := { program := "ytmkmbfficpgmdaa", sum := "38cf5049df0bd6611696f50e6c0b003561c3da13d5aae91dc02ff413de550213", func := "tallage/talkeep.SplitAhead", spec := "splitAhead", apart := false }
def SplitAheadSaid : Prop := splitAheadRow.holds Try.pinned (OpenSpec.ofChange splitAheadSpec)

/-- ITS FALSE NEIGHBOUR: 'it returns false'. Refute it at one input. -/
def splitAheadWrong : ChangeSpec := { name := "splitAhead", fn := fun _ => fun
  | [d1, d2, d3] => { results := [.lit (.bool false)], args := [d1, d2, d3] }
  | _ => none }
def SplitAheadWrongFalsely : Prop := splitAheadRow.holds Try.pinned (OpenSpec.ofChange splitAheadWrong)

/-- 'talkeep.EarnWhole': WHATEVER THE INPUT: true; the input reads as it did. -/
def earnWholeSpec : ChangeSpec := { name := "earnWhole", fn := fun _ => fun
  | [d1, d2, d3, d4, d5] => { results := [.lit (.bool true)], args := [d1, d2, d3, d4, d5] }
  | _ => none }
def earnWholeRow : OpenClaim := { program := "ytmkmbfficpgmdaa", sum := "38cf5049df0bd6611696f50e6c0b003561c3da13d5aae91dc02ff413de550213", func := "tallage/talkeep.EarnWhole", spec := "earnWhole", apart := false }
def EarnWholeSaid : Prop := earnWholeRow.holds Try.pinned (OpenSpec.ofChange earnWholeSpec)

/-- ITS FALSE NEIGHBOUR: 'it returns false'. Refute it at one input. -/
def earnWholeWrong : ChangeSpec := { name := "earnWhole", fn := fun _ => fun
  | [d1, d2, d3, d4, d5] => { results := [.lit (.bool false)], args := [d1, d2, d3, d4, d5] }
  | _ => none }
def EarnWholeWrongFalsely : Prop := earnWholeRow.holds Try.pinned (OpenSpec.ofChange earnWholeWrong)

/-- 'talkeep.EarnTurned': WHATEVER THE INPUT: true; the input reads as it did. -/
def earnTurnedSpec : ChangeSpec := { name := "earnTurned", fn := fun _ => fun
  | [d1, d2, d3, d4] => { results := [.lit (.bool true)], args := [d1, d2, d3, d4] }
  | _ => none }
def earnTurnedRow : OpenClaim := { program := "ytmkmbfficpgmdaa", sum := "38cf5049df0bd6611696f50e6c0b003561c3da13d5aae91dc02ff413de550213", func := "tallage/talkeep.EarnTurned", spec := "earnTurned", apart := false }
def EarnTurnedSaid : Prop := earnTurnedRow.holds Try.pinned (OpenSpec.ofChange earnTurnedSpec)

/-- ITS FALSE NEIGHBOUR: 'it returns false'. Refute it at one input. -/
def earnTurnedWrong : ChangeSpec := { name := "earnTurned", fn := fun _ => fun
  | [d1, d2, d3, d4] => { results := [.lit (.bool false)], args := [d1, d2, d3, d4] }
  | _ => none }
def EarnTurnedWrongFalsely : Prop := earnTurnedRow.holds Try.pinned (OpenSpec.ofChange earnTurnedWrong)

/-- 'talkeep.EarnDays': WHATEVER THE INPUT: true; the input reads as it did. -/
def earnDaysSpec : ChangeSpec := { name := "earnDays", fn := fun _ => fun
  | [d1, d2, d3, d4] => { results := [.lit (.bool true)], args := [d1, d2, d3, d4] }
  | _ => none }
def earnDaysRow : OpenClaim := { program := "ytmkmbfficpgmdaa", sum := "38cf5049df0bd6611696f50e6c0b003561c3da13d5aae91dc02ff413de550213", func := "tallage/talkeep.EarnDays", spec := "earnDays", apart := false }
def EarnDaysSaid : Prop := earnDaysRow.holds Try.pinned (OpenSpec.ofChange earnDaysSpec)

/-- ITS FALSE NEIGHBOUR: 'it returns false'. Refute it at one input. -/
def earnDaysWrong : ChangeSpec := { name := "earnDays", fn := fun _ => fun
  | [d1, d2, d3, d4] => { results := [.lit (.bool false)], args := [d1, d2, d3, d4] }
  | _ => none }
def EarnDaysWrongFalsely : Prop := earnDaysRow.holds Try.pinned (OpenSpec.ofChange earnDaysWrong)

/-- 'talkeep.SplitEven': WHATEVER THE INPUT: true; the input reads as it did. -/
def splitEvenSpec : ChangeSpec := { name := "splitEven", fn := fun _ => fun
  | [d1, d2] => { results := [.lit (.bool true)], args := [d1, d2] }
  | _ => none }
def splitEvenRow : OpenClaim := { program := "ytmkmbfficpgmdaa", sum := "38cf5049df0bd6611696f50e6c0b003561c3da13d5aae91dc02ff413de550213", func := "tallage/talkeep.SplitEven", spec := "splitEven", apart := false }
def SplitEvenSaid : Prop := splitEvenRow.holds Try.pinned (OpenSpec.ofChange splitEvenSpec)

/-- ITS FALSE NEIGHBOUR: 'it returns false'. Refute it at one input. -/
def splitEvenWrong : ChangeSpec := { name := "splitEven", fn := fun _ => fun
  | [d1, d2] => { results := [.lit (.bool false)], args := [d1, d2] }
  | _ => none }
def SplitEvenWrongFalsely : Prop := splitEvenRow.holds Try.pinned (OpenSpec.ofChange splitEvenWrong)

/-- 'talkeep.SplitSum': WHATEVER THE INPUT: true; the input reads as it did. -/
def splitSumSpec : ChangeSpec := { name := "splitSum", fn := fun _ => fun
  | [d1, d2] => { results := [.lit (.bool true)], args := [d1, d2] }
  | _ => none }
def splitSumRow : OpenClaim := { program := "ytmkmbfficpgmdaa", sum := "38cf5049df0bd6611696f50e6c0b003561c3da13d5aae91dc02ff413de550213", func := "tallage/talkeep.SplitSum", spec := "splitSum", unfollowed := true, recurses := true, apart := false }
def SplitSumSaid : Prop := splitSumRow.holds Try.pinned (OpenSpec.ofChange splitSumSpec)

/-- ITS FALSE NEIGHBOUR: 'it returns false'. Refute it at one input. -/
def splitSumWrong : ChangeSpec := { name := "splitSum", fn := fun _ => fun
  | [d1, d2] => { results := [.lit (.bool false)], args := [d1, d2] }
  | _ => none }
def SplitSumWrongFalsely : Prop := splitSumRow.holds Try.pinned (OpenSpec.ofChange splitSumWrong)

/-- 'talkeep.SplitOrder': WHATEVER THE INPUT: true; the input reads as it did. -/
def splitOrderSpec : ChangeSpec := { name := "splitOrder", fn := fun _ => fun
  | [d1, d2, d3] => { results := [.lit (.bool true)], args := [d1, d2, d3] }
  | _ => none }
def splitOrderRow : OpenClaim := { program := "ytmkmbfficpgmdaa", sum := "38cf5049df0bd6611696f50e6c0b003561c3da13d5aae91dc02ff413de550213", func := "tallage/talkeep.SplitOrder", spec := "splitOrder", unfollowed := true, recurses := true, apart := false }
def SplitOrderSaid : Prop := splitOrderRow.holds Try.pinned (OpenSpec.ofChange splitOrderSpec)

/-- ITS FALSE NEIGHBOUR: 'it returns false'. Refute it at one input. -/
def splitOrderWrong : ChangeSpec := { name := "splitOrder", fn := fun _ => fun
  | [d1, d2, d3] => { results := [.lit (.bool false)], args := [d1, d2, d3] }
  | _ => none }
def SplitOrderWrongFalsely : Prop := splitOrderRow.holds Try.pinned (OpenSpec.ofChange splitOrderWrong)

/-- 'talkeep.SplitAlone': WHATEVER THE INPUT: true; the input reads as it did. -/
def splitAloneSpec : ChangeSpec := { name := "splitAlone", fn := fun _ => fun
  | [d1, d2, d3] => { results := [.lit (.bool true)], args := [d1, d2, d3] }
  | _ => none }
def splitAloneRow : OpenClaim := { program := "ytmkmbfficpgmdaa", sum := "38cf5049df0bd6611696f50e6c0b003561c3da13d5aae91dc02ff413de550213", func := "tallage/talkeep.SplitAlone", spec := "splitAlone", unfollowed := true, recurses := true, apart := false }
def SplitAloneSaid : Prop := splitAloneRow.holds Try.pinned (OpenSpec.ofChange splitAloneSpec)

/-- ITS FALSE NEIGHBOUR: 'it returns false'. Refute it at one input. -/
def splitAloneWrong : ChangeSpec := { name := "splitAlone", fn := fun _ => fun
  | [d1, d2, d3] => { results := [.lit (.bool false)], args := [d1, d2, d3] }
  | _ => none }
def SplitAloneWrongFalsely : Prop := splitAloneRow.holds Try.pinned (OpenSpec.ofChange splitAloneWrong)

/-- 'talkeep.LineMore': WHATEVER THE INPUT: true; the input reads as it did. -/
def lineMoreSpec : ChangeSpec := { name := "lineMore", fn := fun _ => fun
  | [d1, d2, d3, d4, d5] => { results := [.lit (.bool true)], args := [d1, d2, d3, d4, d5] }
  | _ => none }
def lineMoreRow : OpenClaim := { program := "ytmkmbfficpgmdaa", sum := "38cf5049df0bd6611696f50e6c0b003561c3da13d5aae91dc02ff413de550213", func := "tallage/talkeep.LineMore", spec := "lineMore", unfollowed := true, recurses := true, apart := false }
def LineMoreSaid : Prop := lineMoreRow.holds Try.pinned (OpenSpec.ofChange lineMoreSpec)

/-- ITS FALSE NEIGHBOUR: 'it returns false'. Refute it at one input. -/
def lineMoreWrong : ChangeSpec := { name := "lineMore", fn := fun _ => fun
  | [d1, d2, d3, d4, d5] => { results := [.lit (.bool false)], args := [d1, d2, d3, d4, d5] }
  | _ => none }
def LineMoreWrongFalsely : Prop := lineMoreRow.holds Try.pinned (OpenSpec.ofChange lineMoreWrong)

/-- 'talkeep.LineSum': WHATEVER THE INPUT: true; the input reads as it did. -/
def lineSumSpec : ChangeSpec := { name := "lineSum", fn := fun _ => fun
  | [d1, d2, d3] => { results := [.lit (.bool true)], args := [d1, d2, d3] }
  | _ => none }
def lineSumRow : OpenClaim := { program := "ytmkmbfficpgmdaa", sum := "38cf5049df0bd6611696f50e6c0b003561c3da13d5aae91dc02ff413de550213", func := "tallage/talkeep.LineSum", spec := "lineSum", unfollowed := true, recurses := true, apart := false }
def LineSumSaid : Prop := lineSumRow.holds Try.pinned (OpenSpec.ofChange lineSumSpec)

/-- ITS FALSE NEIGHBOUR: 'it returns false'. Refute it at one input. -/
def lineSumWrong : ChangeSpec := { name := "lineSum", fn := fun _ => fun
  | [d1, d2, d3] => { results := [.lit (.bool false)], args := [d1, d2, d3] }
  | _ => none }
def LineSumWrongFalsely : Prop := lineSumRow.holds Try.pinned (OpenSpec.ofChange lineSumWrong)

/-- 'talkeep.LineFaster': WHATEVER THE INPUT: true; the input reads as it did. -/
def lineFasterSpec : ChangeSpec := { name := "lineFaster", fn := fun _ => fun
  | [d1, d2, d3, d4] => { results := [.lit (.bool true)], args := [d1, d2, d3, d4] }
  | _ => none }
def lineFasterRow : OpenClaim := { program := "ytmkmbfficpgmdaa", sum := "38cf5049df0bd6611696f50e6c0b003561c3da13d5aae91dc02ff413de550213", func := "tallage/talkeep.LineFaster", spec := "lineFaster", unfollowed := true, recurses := true, apart := false }
def LineFasterSaid : Prop := lineFasterRow.holds Try.pinned (OpenSpec.ofChange lineFasterSpec)

/-- ITS FALSE NEIGHBOUR: 'it returns false'. Refute it at one input. -/
def lineFasterWrong : ChangeSpec := { name := "lineFaster", fn := fun _ => fun
  | [d1, d2, d3, d4] => { results := [.lit (.bool false)], args := [d1, d2, d3, d4] }
  | _ => none }
def LineFasterWrongFalsely : Prop := lineFasterRow.holds Try.pinned (OpenSpec.ofChange lineFasterWrong)

/-- 'talkeep.LineOnce': WHATEVER THE INPUT: true; the input reads as it did. -/
def lineOnceSpec : ChangeSpec := { name := "lineOnce", fn := fun _ => fun
  | [d1, d2, d3, d4] => { results := [.lit (.bool true)], args := [d1, d2, d3, d4] }
  | _ => none }
def lineOnceRow : OpenClaim := { program := "ytmkmbfficpgmdaa", sum := "38cf5049df0bd6611696f50e6c0b003561c3da13d5aae91dc02ff413de550213", func := "tallage/talkeep.LineOnce", spec := "lineOnce", unfollowed := true, recurses := true, apart := false }
def LineOnceSaid : Prop := lineOnceRow.holds Try.pinned (OpenSpec.ofChange lineOnceSpec)

/-- ITS FALSE NEIGHBOUR: 'it returns false'. Refute it at one input. -/
def lineOnceWrong : ChangeSpec := { name := "lineOnce", fn := fun _ => fun
  | [d1, d2, d3, d4] => { results := [.lit (.bool false)], args := [d1, d2, d3, d4] }
  | _ => none }
def LineOnceWrongFalsely : Prop := lineOnceRow.holds Try.pinned (OpenSpec.ofChange lineOnceWrong)

/- THE SECOND FORM. 'bulk': how many values and letters a reading holds, each counted each time it is reached (what is shared counts as often as it is met; a slice's spare places count too). A statement '..UptoSaid' is the law's where the arguments, and the package variables that the reading takes, are together of bulk at most 1048576: NARROWER than '..Said'. Prove '..Said' where nothing that the law and all that it calls make is longer than what came in: it says more and counts as full. Else prove '..UptoSaid'. A law counts once. -/
mutual
def uptoBulk {H : Type} : DataW H → Nat
  | .lit (.string bytes) => bytes.length + 1
  | .lit _ => 1
  | .nil => 1
  | .ptr d => uptoBulk d + 1
  | .slice elems spare => uptoBulkAll elems + uptoBulkAll spare + 1
  | .agg parts => uptoBulkAll parts + 1
  | .iface _ d => uptoBulk d + 1
  | .map entries => uptoBulkEntries entries + 1
  | .held _ => 1
def uptoBulkAll {H : Type} : List (DataW H) → Nat
  | [] => 0
  | d :: r => uptoBulk d + uptoBulkAll r
def uptoBulkEntries {H : Type} : List (Lit × DataW H) → Nat
  | [] => 0
  | x :: r => uptoBulkEntry x + uptoBulkEntries r
def uptoBulkEntry {H : Type} : Lit × DataW H → Nat
  | (.string bytes, d) => bytes.length + uptoBulk d + 1
  | (_, d) => uptoBulk d + 1
 end
def uptoSmall : (H : Type) → List (DataW H) → Bool := fun _ ds => decide (uptoBulkAll ds ≤ 1048576)
def OpenSpec.upto (s : _root_.Go.ChangeSpec) : _root_.Go.OpenSpec := { _root_.Go.OpenSpec.ofChange s with cond := some uptoSmall }

/-- 'talkeep.SplitAhead', WHERE WHAT IT READS IS OF BULK AT MOST 1048576: true; the input reads as it did. -/
def splitAheadUptoRow : OpenClaim := { program := "ytmkmbfficpgmdaa", sum := "38cf5049df0bd6611696f50e6c0b003561c3da13d5aae91dc02ff413de550213", func := "tallage/talkeep.SplitAhead", spec := "splitAhead", apart := false, narrowed := true }
def SplitAheadUptoSaid : Prop := splitAheadUptoRow.holds Try.pinned (OpenSpec.upto splitAheadSpec)

/-- 'talkeep.EarnWhole', WHERE WHAT IT READS IS OF BULK AT MOST 1048576: true; the input reads as it did. -/
def earnWholeUptoRow : OpenClaim := { program := "ytmkmbfficpgmdaa", sum := "38cf5049df0bd6611696f50e6c0b003561c3da13d5aae91dc02ff413de550213", func := "tallage/talkeep.EarnWhole", spec := "earnWhole", apart := false, narrowed := true }
def EarnWholeUptoSaid : Prop := earnWholeUptoRow.holds Try.pinned (OpenSpec.upto earnWholeSpec)

/-- 'talkeep.EarnTurned', WHERE WHAT IT READS IS OF BULK AT MOST 1048576: true; the input reads as it did. -/
def earnTurnedUptoRow : OpenClaim := { program := "ytmkmbfficpgmdaa", sum := "38cf5049df0bd6611696f50e6c0b003561c3da13d5aae91dc02ff413de550213", func := "tallage/talkeep.EarnTurned", spec := "earnTurned", apart := false, narrowed := true }
def EarnTurnedUptoSaid : Prop := earnTurnedUptoRow.holds Try.pinned (OpenSpec.upto earnTurnedSpec)

/-- 'talkeep.EarnDays', WHERE WHAT IT READS IS OF BULK AT MOST 1048576: true; the input reads as it did. -/
def earnDaysUptoRow : OpenClaim := { program := "ytmkmbfficpgmdaa", sum := "38cf5049df0bd6611696f50e6c0b003561c3da13d5aae91dc02ff413de550213", func := "tallage/talkeep.EarnDays", spec := "earnDays", apart := false, narrowed := true }
def EarnDaysUptoSaid : Prop := earnDaysUptoRow.holds Try.pinned (OpenSpec.upto earnDaysSpec)

/-- 'talkeep.SplitEven', WHERE WHAT IT READS IS OF BULK AT MOST 1048576: true; the input reads as it did. -/
def splitEvenUptoRow : OpenClaim := { program := "ytmkmbfficpgmdaa", sum := "38cf5049df0bd6611696f50e6c0b003561c3da13d5aae91dc02ff413de550213", func := "tallage/talkeep.SplitEven", spec := "splitEven", apart := false, narrowed := true }
def SplitEvenUptoSaid : Prop := splitEvenUptoRow.holds Try.pinned (OpenSpec.upto splitEvenSpec)

/-- 'talkeep.SplitSum', WHERE WHAT IT READS IS OF BULK AT MOST 1048576: true; the input reads as it did. -/
def splitSumUptoRow : OpenClaim := { program := "ytmkmbfficpgmdaa", sum := "38cf5049df0bd6611696f50e6c0b003561c3da13d5aae91dc02ff413de550213", func := "tallage/talkeep.SplitSum", spec := "splitSum", unfollowed := true, recurses := true, apart := false, narrowed := true }
def SplitSumUptoSaid : Prop := splitSumUptoRow.holds Try.pinned (OpenSpec.upto splitSumSpec)

/-- 'talkeep.SplitOrder', WHERE WHAT IT READS IS OF BULK AT MOST 1048576: true; the input reads as it did. -/
def splitOrderUptoRow : OpenClaim := { program := "ytmkmbfficpgmdaa", sum := "38cf5049df0bd6611696f50e6c0b003561c3da13d5aae91dc02ff413de550213", func := "tallage/talkeep.SplitOrder", spec := "splitOrder", unfollowed := true, recurses := true, apart := false, narrowed := true }
def SplitOrderUptoSaid : Prop := splitOrderUptoRow.holds Try.pinned (OpenSpec.upto splitOrderSpec)

/-- 'talkeep.SplitAlone', WHERE WHAT IT READS IS OF BULK AT MOST 1048576: true; the input reads as it did. -/
def splitAloneUptoRow : OpenClaim := { program := "ytmkmbfficpgmdaa", sum := "38cf5049df0bd6611696f50e6c0b003561c3da13d5aae91dc02ff413de550213", func := "tallage/talkeep.SplitAlone", spec := "splitAlone", unfollowed := true, recurses := true, apart := false, narrowed := true }
def SplitAloneUptoSaid : Prop := splitAloneUptoRow.holds Try.pinned (OpenSpec.upto splitAloneSpec)

/-- 'talkeep.LineMore', WHERE WHAT IT READS IS OF BULK AT MOST 1048576: true; the input reads as it did. -/
def lineMoreUptoRow : OpenClaim := { program := "ytmkmbfficpgmdaa", sum := "38cf5049df0bd6611696f50e6c0b003561c3da13d5aae91dc02ff413de550213", func := "tallage/talkeep.LineMore", spec := "lineMore", unfollowed := true, recurses := true, apart := false, narrowed := true }
def LineMoreUptoSaid : Prop := lineMoreUptoRow.holds Try.pinned (OpenSpec.upto lineMoreSpec)

/-- 'talkeep.LineSum', WHERE WHAT IT READS IS OF BULK AT MOST 1048576: true; the input reads as it did. -/
def lineSumUptoRow : OpenClaim := { program := "ytmkmbfficpgmdaa", sum := "38cf5049df0bd6611696f50e6c0b003561c3da13d5aae91dc02ff413de550213", func := "tallage/talkeep.LineSum", spec := "lineSum", unfollowed := true, recurses := true, apart := false, narrowed := true }
def LineSumUptoSaid : Prop := lineSumUptoRow.holds Try.pinned (OpenSpec.upto lineSumSpec)

/-- 'talkeep.LineFaster', WHERE WHAT IT READS IS OF BULK AT MOST 1048576: true; the input reads as it did. -/
def lineFasterUptoRow : OpenClaim := { program := "ytmkmbfficpgmdaa", sum := "38cf5049df0bd6611696f50e6c0b003561c3da13d5aae91dc02ff413de550213", func := "tallage/talkeep.LineFaster", spec := "lineFaster", unfollowed := true, recurses := true, apart := false, narrowed := true }
def LineFasterUptoSaid : Prop := lineFasterUptoRow.holds Try.pinned (OpenSpec.upto lineFasterSpec)

/-- 'talkeep.LineOnce', WHERE WHAT IT READS IS OF BULK AT MOST 1048576: true; the input reads as it did. -/
def lineOnceUptoRow : OpenClaim := { program := "ytmkmbfficpgmdaa", sum := "38cf5049df0bd6611696f50e6c0b003561c3da13d5aae91dc02ff413de550213", func := "tallage/talkeep.LineOnce", spec := "lineOnce", unfollowed := true, recurses := true, apart := false, narrowed := true }
def LineOnceUptoSaid : Prop := lineOnceUptoRow.holds Try.pinned (OpenSpec.upto lineOnceSpec)

end Rows
end Go.Proofs.Ytmkmbfficpgmdaa
