/-
  No cell of these rows narrows 'for every input' (looked for: loops, veiled, ifaces, maps, wideKeys, modest, calm, conditions, laid).
  DERIVED. THE GIVEN ROWS OF THIS SEAT. 12 by the template 'for every input the law returns true; each argument reads behind the call as it read before'; 0 by the template 'total and deterministic' (their statements: YtphkckonnogjmaaTotals.lean).
  GIVEN WITH THE SEED: the statements are not yours to turn. If you find one false, say at which input.
  Laid BY PROGRAM, IN A SANDBOX (cutbox-rows.mjs): the forced cells as the released guide's own fill.sh prints them over the translation 9377b5a9fad39da2… (all of the seat's roots in one cut). By AI agents, Wed Nov 11 2026. No macro, syntax, notation, axiom, sorry.
-/
import Derived.Test.YtphkckonnogjmaaChecked
import GoSem.Claim
import GoSem.ClaimJoined
import GoSem.ClaimMapViews
import Derived.JoinedTies
import Derived.KernelRfl
namespace Go.Proofs.Ytphkckonnogjmaa
/- THE CELL 'sum', in the pinned program and in every row, IS THE sha256 OF THE DUMP (.gsa) THAT YtphkckonnogjmaaProg.lean LOADS. Nothing in Lean hashes anything: it is a label: what it is worth is what the hold of that sum in a sandbox is worth. -/
noncomputable def Try.pinned : Pinned := { name := "ytphkckonnogjmaa", sum := "9377b5a9fad39da27eb277ece934091863b34cd9a78c66d119c98b1c5f9afc80", checked := Try.checked }
namespace Rows
def none {H : Type} : Left H := { results := [], args := [] }

/-- 'talkeep.AgeSum': WHATEVER THE INPUT: true; the input reads as it did. -/
def ageSumSpec : ChangeSpec := { name := "ageSum", fn := fun _ => fun
  | [d1, d2, d3, d4] => { results := [.lit (.bool true)], args := [d1, d2, d3, d4] }
  | _ => none }
def ageSumRow : OpenClaim := { program := "ytphkckonnogjmaa", sum := "9377b5a9fad39da27eb277ece934091863b34cd9a78c66d119c98b1c5f9afc80", func := "tallage/talkeep.AgeSum", spec := "ageSum", apart := false }
def AgeSumSaid : Prop := ageSumRow.holds Try.pinned (OpenSpec.ofChange ageSumSpec)

/-- ITS FALSE NEIGHBOUR: 'it returns false'. Refute it at one input. -/
def ageSumWrong : ChangeSpec := { name := "ageSum", fn := fun _ => fun
  | [d1, d2, d3, d4] => { results := [.lit (.bool false)], args := [d1, d2, d3, d4] }
  | _ => none }
def AgeSumWrongFalsely : Prop := ageSumRow.holds Try.pinned (OpenSpec.ofChange ageSumWrong)

/-- 'talkeep.AgeNone': WHATEVER THE INPUT: true; the input reads as it did. -/
def ageNoneSpec : ChangeSpec := { name := "ageNone", fn := fun _ => fun
  | [d1, d2] => { results := [.lit (.bool true)], args := [d1, d2] }
  | _ => none }
def ageNoneRow : OpenClaim := { program := "ytphkckonnogjmaa", sum := "9377b5a9fad39da27eb277ece934091863b34cd9a78c66d119c98b1c5f9afc80", func := "tallage/talkeep.AgeNone", spec := "ageNone", unfollowed := true, recurses := true, apart := false }
def AgeNoneSaid : Prop := ageNoneRow.holds Try.pinned (OpenSpec.ofChange ageNoneSpec)

/-- ITS FALSE NEIGHBOUR: 'it returns false'. Refute it at one input. -/
def ageNoneWrong : ChangeSpec := { name := "ageNone", fn := fun _ => fun
  | [d1, d2] => { results := [.lit (.bool false)], args := [d1, d2] }
  | _ => none }
def AgeNoneWrongFalsely : Prop := ageNoneRow.holds Try.pinned (OpenSpec.ofChange ageNoneWrong)

/-- 'talkeep.AgeTwice': WHATEVER THE INPUT: true; the input reads as it did. -/
def ageTwiceSpec : ChangeSpec := { name := "ageTwice", fn := fun _ => fun
  | [d1, d2, d3] => { results := [.lit (.bool true)], args := [d1, d2, d3] }
  | _ => none }
def ageTwiceRow : OpenClaim := { program := "ytphkckonnogjmaa", sum := "9377b5a9fad39da27eb277ece934091863b34cd9a78c66d119c98b1c5f9afc80", func := "tallage/talkeep.AgeTwice", spec := "ageTwice", unfollowed := true, recurses := true, apart := false }
def AgeTwiceSaid : Prop := ageTwiceRow.holds Try.pinned (OpenSpec.ofChange ageTwiceSpec)

/-- ITS FALSE NEIGHBOUR: 'it returns false'. Refute it at one input. -/
def ageTwiceWrong : ChangeSpec := { name := "ageTwice", fn := fun _ => fun
  | [d1, d2, d3] => { results := [.lit (.bool false)], args := [d1, d2, d3] }
  | _ => none }
def AgeTwiceWrongFalsely : Prop := ageTwiceRow.holds Try.pinned (OpenSpec.ofChange ageTwiceWrong)

/-- 'talkeep.AgePaid': WHATEVER THE INPUT: true; the input reads as it did. -/
def agePaidSpec : ChangeSpec := { name := "agePaid", fn := fun _ => fun
  | [d1, d2] => { results := [.lit (.bool true)], args := [d1, d2] }
  | _ => none }
def agePaidRow : OpenClaim := { program := "ytphkckonnogjmaa", sum := "9377b5a9fad39da27eb277ece934091863b34cd9a78c66d119c98b1c5f9afc80", func := "tallage/talkeep.AgePaid", spec := "agePaid", unfollowed := true, recurses := true, apart := false }
def AgePaidSaid : Prop := agePaidRow.holds Try.pinned (OpenSpec.ofChange agePaidSpec)

/-- ITS FALSE NEIGHBOUR: 'it returns false'. Refute it at one input. -/
def agePaidWrong : ChangeSpec := { name := "agePaid", fn := fun _ => fun
  | [d1, d2] => { results := [.lit (.bool false)], args := [d1, d2] }
  | _ => none }
def AgePaidWrongFalsely : Prop := agePaidRow.holds Try.pinned (OpenSpec.ofChange agePaidWrong)

/-- 'talkeep.AgeAny': WHATEVER THE INPUT: true; the input reads as it did. -/
def ageAnySpec : ChangeSpec := { name := "ageAny", fn := fun _ => fun
  | [d1, d2, d3, d4] => { results := [.lit (.bool true)], args := [d1, d2, d3, d4] }
  | _ => none }
def ageAnyRow : OpenClaim := { program := "ytphkckonnogjmaa", sum := "9377b5a9fad39da27eb277ece934091863b34cd9a78c66d119c98b1c5f9afc80", func := "tallage/talkeep.AgeAny", spec := "ageAny", unfollowed := true, recurses := true, apart := false }
def AgeAnySaid : Prop := ageAnyRow.holds Try.pinned (OpenSpec.ofChange ageAnySpec)

/-- ITS FALSE NEIGHBOUR: 'it returns false'. Refute it at one input. -/
def ageAnyWrong : ChangeSpec := { name := "ageAny", fn := fun _ => fun
  | [d1, d2, d3, d4] => { results := [.lit (.bool false)], args := [d1, d2, d3, d4] }
  | _ => none }
def AgeAnyWrongFalsely : Prop := ageAnyRow.holds Try.pinned (OpenSpec.ofChange ageAnyWrong)

/-- 'talkeep.TieWider': WHATEVER THE INPUT: true; the input reads as it did. -/
def tieWiderSpec : ChangeSpec := { name := "tieWider", fn := fun _ => fun
  | [d1, d2, d3, d4, d5] => { results := [.lit (.bool true)], args := [d1, d2, d3, d4, d5] }
  | _ => none }
def tieWiderRow : OpenClaim := { program := "ytphkckonnogjmaa", sum := "9377b5a9fad39da27eb277ece934091863b34cd9a78c66d119c98b1c5f9afc80", func := "tallage/talkeep.TieWider", spec := "tieWider", unfollowed := true, recurses := true, apart := false }
def TieWiderSaid : Prop := tieWiderRow.holds Try.pinned (OpenSpec.ofChange tieWiderSpec)

/-- ITS FALSE NEIGHBOUR: 'it returns false'. Refute it at one input. -/
def tieWiderWrong : ChangeSpec := { name := "tieWider", fn := fun _ => fun
  | [d1, d2, d3, d4, d5] => { results := [.lit (.bool false)], args := [d1, d2, d3, d4, d5] }
  | _ => none }
def TieWiderWrongFalsely : Prop := tieWiderRow.holds Try.pinned (OpenSpec.ofChange tieWiderWrong)

/-- 'talkeep.TieRight': WHATEVER THE INPUT: true; the input reads as it did. -/
def tieRightSpec : ChangeSpec := { name := "tieRight", fn := fun _ => fun
  | [d1, d2, d3] => { results := [.lit (.bool true)], args := [d1, d2, d3] }
  | _ => none }
def tieRightRow : OpenClaim := { program := "ytphkckonnogjmaa", sum := "9377b5a9fad39da27eb277ece934091863b34cd9a78c66d119c98b1c5f9afc80", func := "tallage/talkeep.TieRight", spec := "tieRight", unfollowed := true, recurses := true, apart := false }
def TieRightSaid : Prop := tieRightRow.holds Try.pinned (OpenSpec.ofChange tieRightSpec)

/-- ITS FALSE NEIGHBOUR: 'it returns false'. Refute it at one input. -/
def tieRightWrong : ChangeSpec := { name := "tieRight", fn := fun _ => fun
  | [d1, d2, d3] => { results := [.lit (.bool false)], args := [d1, d2, d3] }
  | _ => none }
def TieRightWrongFalsely : Prop := tieRightRow.holds Try.pinned (OpenSpec.ofChange tieRightWrong)

/-- 'talkeep.TieMost': WHATEVER THE INPUT: true; the input reads as it did. -/
def tieMostSpec : ChangeSpec := { name := "tieMost", fn := fun _ => fun
  | [d1, d2, d3, d4] => { results := [.lit (.bool true)], args := [d1, d2, d3, d4] }
  | _ => none }
def tieMostRow : OpenClaim := { program := "ytphkckonnogjmaa", sum := "9377b5a9fad39da27eb277ece934091863b34cd9a78c66d119c98b1c5f9afc80", func := "tallage/talkeep.TieMost", spec := "tieMost", unfollowed := true, recurses := true, apart := false }
def TieMostSaid : Prop := tieMostRow.holds Try.pinned (OpenSpec.ofChange tieMostSpec)

/-- ITS FALSE NEIGHBOUR: 'it returns false'. Refute it at one input. -/
def tieMostWrong : ChangeSpec := { name := "tieMost", fn := fun _ => fun
  | [d1, d2, d3, d4] => { results := [.lit (.bool false)], args := [d1, d2, d3, d4] }
  | _ => none }
def TieMostWrongFalsely : Prop := tieMostRow.holds Try.pinned (OpenSpec.ofChange tieMostWrong)

/-- 'talkeep.TieSelf': WHATEVER THE INPUT: true; the input reads as it did. -/
def tieSelfSpec : ChangeSpec := { name := "tieSelf", fn := fun _ => fun
  | [d1, d2] => { results := [.lit (.bool true)], args := [d1, d2] }
  | _ => none }
def tieSelfRow : OpenClaim := { program := "ytphkckonnogjmaa", sum := "9377b5a9fad39da27eb277ece934091863b34cd9a78c66d119c98b1c5f9afc80", func := "tallage/talkeep.TieSelf", spec := "tieSelf", unfollowed := true, recurses := true, apart := false }
def TieSelfSaid : Prop := tieSelfRow.holds Try.pinned (OpenSpec.ofChange tieSelfSpec)

/-- ITS FALSE NEIGHBOUR: 'it returns false'. Refute it at one input. -/
def tieSelfWrong : ChangeSpec := { name := "tieSelf", fn := fun _ => fun
  | [d1, d2] => { results := [.lit (.bool false)], args := [d1, d2] }
  | _ => none }
def TieSelfWrongFalsely : Prop := tieSelfRow.holds Try.pinned (OpenSpec.ofChange tieSelfWrong)

/-- 'talkeep.SplitSum': WHATEVER THE INPUT: true; the input reads as it did. -/
def splitSumSpec : ChangeSpec := { name := "splitSum", fn := fun _ => fun
  | [d1, d2] => { results := [.lit (.bool true)], args := [d1, d2] }
  | _ => none }
def splitSumRow : OpenClaim := { program := "ytphkckonnogjmaa", sum := "9377b5a9fad39da27eb277ece934091863b34cd9a78c66d119c98b1c5f9afc80", func := "tallage/talkeep.SplitSum", spec := "splitSum", unfollowed := true, recurses := true, apart := false }
def SplitSumSaid : Prop := splitSumRow.holds Try.pinned (OpenSpec.ofChange splitSumSpec)

/-- ITS FALSE NEIGHBOUR: 'it returns false'. Refute it at one input. -/
def splitSumWrong : ChangeSpec := { name := "splitSum", fn := fun _ => fun
  | [d1, d2] => { results := [.lit (.bool false)], args := [d1, d2] }
  | _ => none }
def SplitSumWrongFalsely : Prop := splitSumRow.holds Try.pinned (OpenSpec.ofChange splitSumWrong)

/-- 'talkeep.SplitOrder': WHATEVER THE INPUT: true; the input reads as it did. -/
def splitOrderSpec : ChangeSpec := { name := "splitOrder", fn := fun _ => fun
  | [d1, d2, d3] => { results := [.lit (.bool true)], args := [d1, d2, d3] }
  | _ => none }
def splitOrderRow : OpenClaim := { program := "ytphkckonnogjmaa", sum := "9377b5a9fad39da27eb277ece934091863b34cd9a78c66d119c98b1c5f9afc80", func := "tallage/talkeep.SplitOrder", spec := "splitOrder", unfollowed := true, recurses := true, apart := false }
def SplitOrderSaid : Prop := splitOrderRow.holds Try.pinned (OpenSpec.ofChange splitOrderSpec)

/-- ITS FALSE NEIGHBOUR: 'it returns false'. Refute it at one input. -/
def splitOrderWrong : ChangeSpec := { name := "splitOrder", fn := fun _ => fun
  | [d1, d2, d3] => { results := [.lit (.bool false)], args := [d1, d2, d3] }
  | _ => none }
def SplitOrderWrongFalsely : Prop := splitOrderRow.holds Try.pinned (OpenSpec.ofChange splitOrderWrong)

/-- 'talkeep.SplitAlone': WHATEVER THE INPUT: true; the input reads as it did. -/
def splitAloneSpec : ChangeSpec := { name := "splitAlone", fn := fun _ => fun
  | [d1, d2, d3] => { results := [.lit (.bool true)], args := [d1, d2, d3] }
  | _ => none }
def splitAloneRow : OpenClaim := { program := "ytphkckonnogjmaa", sum := "9377b5a9fad39da27eb277ece934091863b34cd9a78c66d119c98b1c5f9afc80", func := "tallage/talkeep.SplitAlone", spec := "splitAlone", unfollowed := true, recurses := true, apart := false }
def SplitAloneSaid : Prop := splitAloneRow.holds Try.pinned (OpenSpec.ofChange splitAloneSpec)

/-- ITS FALSE NEIGHBOUR: 'it returns false'. Refute it at one input. -/
def splitAloneWrong : ChangeSpec := { name := "splitAlone", fn := fun _ => fun
  | [d1, d2, d3] => { results := [.lit (.bool false)], args := [d1, d2, d3] }
  | _ => none }
def SplitAloneWrongFalsely : Prop := splitAloneRow.holds Try.pinned (OpenSpec.ofChange splitAloneWrong)

/- THE SECOND FORM. 'bulk': how many values and letters a reading holds, each counted each time it is reached (what is shared counts as often as it is met; a slice's spare places count too). A statement '..UptoSaid' is the law's where the arguments, and the package variables that the reading takes, are together of bulk at most 1048576: NARROWER than '..Said'. Prove '..Said' where nothing that the law and all that it calls make is longer than what came in: it says more and counts as full. Else prove '..UptoSaid'. A law counts once. -/
mutual
def uptoBulk {H : Type} : DataW H → Nat
  | .lit (.string bytes) => bytes.length + 1
  | .lit _ => 1
  | .nil => 1
  | .ptr d => uptoBulk d + 1
  | .slice elems spare => uptoBulkAll elems + uptoBulkAll spare + 1
  | .agg parts => uptoBulkAll parts + 1
  | .iface _ d => uptoBulk d + 1
  | .map entries => uptoBulkEntries entries + 1
  | .held _ => 1
def uptoBulkAll {H : Type} : List (DataW H) → Nat
  | [] => 0
  | d :: r => uptoBulk d + uptoBulkAll r
def uptoBulkEntries {H : Type} : List (Lit × DataW H) → Nat
  | [] => 0
  | x :: r => uptoBulkEntry x + uptoBulkEntries r
def uptoBulkEntry {H : Type} : Lit × DataW H → Nat
  | (.string bytes, d) => bytes.length + uptoBulk d + 1
  | (_, d) => uptoBulk d + 1
 end
def uptoSmall : (H : Type) → List (DataW H) → Bool := fun _ ds => decide (uptoBulkAll ds ≤ 1048576)
def OpenSpec.upto (s : _root_.Go.ChangeSpec) : _root_.Go.OpenSpec := { _root_.Go.OpenSpec.ofChange s with cond := some uptoSmall }

/-- 'talkeep.AgeSum', WHERE WHAT IT READS IS OF BULK AT MOST 1048576: true; the input reads as it did. -/
def ageSumUptoRow : OpenClaim := { program := "ytphkckonnogjmaa", sum := "9377b5a9fad39da27eb277ece934091863b34cd9a78c66d119c98b1c5f9afc80", func := "tallage/talkeep.AgeSum", spec := "ageSum", apart := false, narrowed := true }
def AgeSumUptoSaid : Prop := ageSumUptoRow.holds Try.pinned (OpenSpec.upto ageSumSpec)

/-- 'talkeep.AgeNone', WHERE WHAT IT READS IS OF BULK AT MOST 1048576: true; the input reads as it did. -/
def ageNoneUptoRow : OpenClaim := { program := "ytphkckonnogjmaa", sum := "9377b5a9fad39da27eb277ece934091863b34cd9a78c66d119c98b1c5f9afc80", func := "tallage/talkeep.AgeNone", spec := "ageNone", unfollowed := true, recurses := true, apart := false, narrowed := true }
def AgeNoneUptoSaid : Prop := ageNoneUptoRow.holds Try.pinned (OpenSpec.upto ageNoneSpec)

/-- 'talkeep.AgeTwice', WHERE WHAT IT READS IS OF BULK AT MOST 1048576: true; the input reads as it did. -/
def ageTwiceUptoRow : OpenClaim := { program := "ytphkckonnogjmaa", sum := "9377b5a9fad39da27eb277ece934091863b34cd9a78c66d119c98b1c5f9afc80", func := "tallage/talkeep.AgeTwice", spec := "ageTwice", unfollowed := true, recurses := true, apart := false, narrowed := true }
def AgeTwiceUptoSaid : Prop := ageTwiceUptoRow.holds Try.pinned (OpenSpec.upto ageTwiceSpec)

/-- 'talkeep.AgePaid', WHERE WHAT IT READS IS OF BULK AT MOST 1048576: true; the input reads as it did. -/
def agePaidUptoRow : OpenClaim := { program := "ytphkckonnogjmaa", sum := "9377b5a9fad39da27eb277ece934091863b34cd9a78c66d119c98b1c5f9afc80", func := "tallage/talkeep.AgePaid", spec := "agePaid", unfollowed := true, recurses := true, apart := false, narrowed := true }
def AgePaidUptoSaid : Prop := agePaidUptoRow.holds Try.pinned (OpenSpec.upto agePaidSpec)

/-- 'talkeep.AgeAny', WHERE WHAT IT READS IS OF BULK AT MOST 1048576: true; the input reads as it did. -/
def ageAnyUptoRow : OpenClaim := { program := "ytphkckonnogjmaa", sum := "9377b5a9fad39da27eb277ece934091863b34cd9a78c66d119c98b1c5f9afc80", func := "tallage/talkeep.AgeAny", spec := "ageAny", unfollowed := true, recurses := true, apart := false, narrowed := true }
def AgeAnyUptoSaid : Prop := ageAnyUptoRow.holds Try.pinned (OpenSpec.upto ageAnySpec)

/-- 'talkeep.TieWider', WHERE WHAT IT READS IS OF BULK AT MOST 1048576: true; the input reads as it did. -/
def tieWiderUptoRow : OpenClaim := { program := "ytphkckonnogjmaa", sum := "9377b5a9fad39da27eb277ece934091863b34cd9a78c66d119c98b1c5f9afc80", func := "tallage/talkeep.TieWider", spec := "tieWider", unfollowed := true, recurses := true, apart := false, narrowed := true }
def TieWiderUptoSaid : Prop := tieWiderUptoRow.holds Try.pinned (OpenSpec.upto tieWiderSpec)

/-- 'talkeep.TieRight', WHERE WHAT IT READS IS OF BULK AT MOST 1048576: true; the input reads as it did. -/
def tieRightUptoRow : OpenClaim := { program := "ytphkckonnogjmaa", sum := "9377b5a9fad39da27eb277ece934091863b34cd9a78c66d119c98b1c5f9afc80", func := "tallage/talkeep.TieRight", spec := "tieRight", unfollowed := true, recurses := true, apart := false, narrowed := true }
def TieRightUptoSaid : Prop := tieRightUptoRow.holds Try.pinned (OpenSpec.upto tieRightSpec)

/-- 'talkeep.TieMost', WHERE WHAT IT READS IS OF BULK AT MOST 1048576: true; the input reads as it did. -/
def tieMostUptoRow : OpenClaim := { program := "ytphkckonnogjmaa", sum := "9377b5a9fad39da27eb277ece934091863b34cd9a78c66d119c98b1c5f9afc80", func := "tallage/talkeep.TieMost", spec := "tieMost", unfollowed := true, recurses := true, apart := false, narrowed := true }
def TieMostUptoSaid : Prop := tieMostUptoRow.holds Try.pinned (OpenSpec.upto tieMostSpec)

/-- 'talkeep.TieSelf', WHERE WHAT IT READS IS OF BULK AT MOST 1048576: true; the input reads as it did. -/
def tieSelfUptoRow : OpenClaim := { program := "ytphkckonnogjmaa", sum := "9377b5a9fad39da27eb277ece934091863b34cd9a78c66d119c98b1c5f9afc80", func := "tallage/talkeep.TieSelf", spec := "tieSelf", unfollowed := true, recurses := true, apart := false, narrowed := true }
def TieSelfUptoSaid : Prop := tieSelfUptoRow.holds Try.pinned (OpenSpec.upto tieSelfSpec)

/-- 'talkeep.SplitSum', WHERE WHAT IT READS IS OF BULK AT MOST 1048576: true; the input reads as it did. -/
def splitSumUptoRow : OpenClaim := { program := "ytphkckonnogjmaa", sum := "9377b5a9fad39da27eb277ece934091863b34cd9a78c66d119c98b1c5f9afc80", func := "tallage/talkeep.SplitSum", spec := "splitSum", unfollowed := true, recurses := true, apart := false, narrowed := true }
def SplitSumUptoSaid : Prop := splitSumUptoRow.holds Try.pinned (OpenSpec.upto splitSumSpec)

/-- 'talkeep.SplitOrder', WHERE WHAT IT READS IS OF BULK AT MOST 1048576: true; the input reads as it did. -/
def splitOrderUptoRow : OpenClaim := { program := "ytphkckonnogjmaa", sum := "9377b5a9fad39da27eb277ece934091863b34cd9a78c66d119c98b1c5f9afc80", func := "tallage/talkeep.SplitOrder", spec := "splitOrder", unfollowed := true, recurses := true, apart := false, narrowed := true }
def SplitOrderUptoSaid : Prop := splitOrderUptoRow.holds Try.pinned (OpenSpec.upto splitOrderSpec)

/-- 'talkeep.SplitAlone', WHERE WHAT IT READS IS OF BULK AT MOST 1048576: true; the input reads as it did. -/
def splitAloneUptoRow : OpenClaim := { program := "ytphkckonnogjmaa", sum := "9377b5a9fad39da27eb277ece934091863b34cd9a78c66d119c98b1c5f9afc80", func := "tallage/talkeep.SplitAlone", spec := "splitAlone", unfollowed := true, recurses := true, apart := false, narrowed := true }
def SplitAloneUptoSaid : Prop := splitAloneUptoRow.holds Try.pinned (OpenSpec.upto splitAloneSpec)

end Rows
end Go.Proofs.Ytphkckonnogjmaa
