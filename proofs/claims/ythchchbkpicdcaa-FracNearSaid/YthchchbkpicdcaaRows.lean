/-
  No cell of these rows narrows 'for every input' (looked for: loops, veiled, ifaces, maps, wideKeys, modest, calm, conditions, laid).
  DERIVED. THE GIVEN ROWS OF THIS SEAT. 12 by the template 'for every input the law returns true; each argument reads behind the call as it read before'; 0 by the template 'total and deterministic' (their statements: YthchchbkpicdcaaTotals.lean).
  GIVEN WITH THE SEED: the statements are not yours to turn. If you find one false, say at which input.
  Laid BY PROGRAM, IN A SANDBOX (cutbox-rows.mjs): the forced cells as the released guide's own fill.sh prints them over the translation cda13dba9e89b34a… (all of the seat's roots in one cut). By AI agents, Wed Nov 11 2026. No macro, syntax, notation, axiom, sorry.
-/
import Derived.Test.YthchchbkpicdcaaChecked
import GoSem.Claim
import GoSem.ClaimJoined
import GoSem.ClaimMapViews
import Derived.JoinedTies
import Derived.KernelRfl
namespace Go.Proofs.Ythchchbkpicdcaa
/- THE CELL 'sum', in the pinned program and in every row, IS THE sha256 OF THE DUMP (.gsa) THAT YthchchbkpicdcaaProg.lean LOADS. Nothing in Lean hashes anything: it is a label: what it is worth is what the hold of that sum in a sandbox is worth. -/
noncomputable def Try.pinned : Pinned := { name := "ythchchbkpicdcaa", sum := "cda13dba9e89b34ac1c3abaa71aa1a19fcb0a7467ff79a98fa1fd1b582093957", checked := Try.checked }
namespace Rows
def none {H : Type} : Left H := { results := [], args := [] }

/-- 'talkeep.FracNear': WHATEVER THE INPUT: true; the input reads as it did. -/
def fracNearSpec : ChangeSpec := { name := "fracNear", fn := fun _ => fun
  | [d] => { results := [.lit (.bool true)], args := [d] }
  | _ => none }
def fracNearRow : OpenClaim := { program := "ythchchbkpicdcaa", sum := "cda13dba9e89b34ac1c3abaa71aa1a19fcb0a7467ff79a98fa1fd1b582093957", func := "tallage/talkeep.FracNear", spec := "fracNear", unfollowed := true, recurses := true, apart := false }
def FracNearSaid : Prop := fracNearRow.holds Try.pinned (OpenSpec.ofChange fracNearSpec)

/-- ITS FALSE NEIGHBOUR: 'it returns false'. Refute it at one input. -/
def fracNearWrong : ChangeSpec := { name := "fracNear", fn := fun _ => fun
  | [d] => { results := [.lit (.bool false)], args := [d] }
  | _ => none }
def FracNearWrongFalsely : Prop := fracNearRow.holds Try.pinned (OpenSpec.ofChange fracNearWrong)

/-- 'talkeep.FracWhole': WHATEVER THE INPUT: true; the input reads as it did. -/
def fracWholeSpec : ChangeSpec := { name := "fracWhole", fn := fun _ => fun
  | [d1, d2, d3, d4] => { results := [.lit (.bool true)], args := [d1, d2, d3, d4] }
  | _ => none }
def fracWholeRow : OpenClaim := { program := "ythchchbkpicdcaa", sum := "cda13dba9e89b34ac1c3abaa71aa1a19fcb0a7467ff79a98fa1fd1b582093957", func := "tallage/talkeep.FracWhole", spec := "fracWhole", apart := false }
def FracWholeSaid : Prop := fracWholeRow.holds Try.pinned (OpenSpec.ofChange fracWholeSpec)

/-- ITS FALSE NEIGHBOUR: 'it returns false'. Refute it at one input. -/
def fracWholeWrong : ChangeSpec := { name := "fracWhole", fn := fun _ => fun
  | [d1, d2, d3, d4] => { results := [.lit (.bool false)], args := [d1, d2, d3, d4] }
  | _ => none }
def FracWholeWrongFalsely : Prop := fracWholeRow.holds Try.pinned (OpenSpec.ofChange fracWholeWrong)

/-- 'talkeep.FracNorm': WHATEVER THE INPUT: true; the input reads as it did. -/
def fracNormSpec : ChangeSpec := { name := "fracNorm", fn := fun _ => fun
  | [d1, d2] => { results := [.lit (.bool true)], args := [d1, d2] }
  | _ => none }
def fracNormRow : OpenClaim := { program := "ythchchbkpicdcaa", sum := "cda13dba9e89b34ac1c3abaa71aa1a19fcb0a7467ff79a98fa1fd1b582093957", func := "tallage/talkeep.FracNorm", spec := "fracNorm", apart := false }
def FracNormSaid : Prop := fracNormRow.holds Try.pinned (OpenSpec.ofChange fracNormSpec)

/-- ITS FALSE NEIGHBOUR: 'it returns false'. Refute it at one input. -/
def fracNormWrong : ChangeSpec := { name := "fracNorm", fn := fun _ => fun
  | [d1, d2] => { results := [.lit (.bool false)], args := [d1, d2] }
  | _ => none }
def FracNormWrongFalsely : Prop := fracNormRow.holds Try.pinned (OpenSpec.ofChange fracNormWrong)

/-- 'talkeep.FracGrows': WHATEVER THE INPUT: true; the input reads as it did. -/
def fracGrowsSpec : ChangeSpec := { name := "fracGrows", fn := fun _ => fun
  | [d1, d2, d3] => { results := [.lit (.bool true)], args := [d1, d2, d3] }
  | _ => none }
def fracGrowsRow : OpenClaim := { program := "ythchchbkpicdcaa", sum := "cda13dba9e89b34ac1c3abaa71aa1a19fcb0a7467ff79a98fa1fd1b582093957", func := "tallage/talkeep.FracGrows", spec := "fracGrows", apart := false }
def FracGrowsSaid : Prop := fracGrowsRow.holds Try.pinned (OpenSpec.ofChange fracGrowsSpec)

/-- ITS FALSE NEIGHBOUR: 'it returns false'. Refute it at one input. -/
def fracGrowsWrong : ChangeSpec := { name := "fracGrows", fn := fun _ => fun
  | [d1, d2, d3] => { results := [.lit (.bool false)], args := [d1, d2, d3] }
  | _ => none }
def FracGrowsWrongFalsely : Prop := fracGrowsRow.holds Try.pinned (OpenSpec.ofChange fracGrowsWrong)

/-- 'talkeep.FracOrder': WHATEVER THE INPUT: true; the input reads as it did. -/
def fracOrderSpec : ChangeSpec := { name := "fracOrder", fn := fun _ => fun
  | [d1, d2, d3] => { results := [.lit (.bool true)], args := [d1, d2, d3] }
  | _ => none }
def fracOrderRow : OpenClaim := { program := "ythchchbkpicdcaa", sum := "cda13dba9e89b34ac1c3abaa71aa1a19fcb0a7467ff79a98fa1fd1b582093957", func := "tallage/talkeep.FracOrder", spec := "fracOrder", apart := false }
def FracOrderSaid : Prop := fracOrderRow.holds Try.pinned (OpenSpec.ofChange fracOrderSpec)

/-- ITS FALSE NEIGHBOUR: 'it returns false'. Refute it at one input. -/
def fracOrderWrong : ChangeSpec := { name := "fracOrder", fn := fun _ => fun
  | [d1, d2, d3] => { results := [.lit (.bool false)], args := [d1, d2, d3] }
  | _ => none }
def FracOrderWrongFalsely : Prop := fracOrderRow.holds Try.pinned (OpenSpec.ofChange fracOrderWrong)

/-- 'talkeep.FracField': WHATEVER THE INPUT: true; the input reads as it did. -/
def fracFieldSpec : ChangeSpec := { name := "fracField", fn := fun _ => fun
  | [d1, d2, d3, d4, d5, d6] => { results := [.lit (.bool true)], args := [d1, d2, d3, d4, d5, d6] }
  | _ => none }
def fracFieldRow : OpenClaim := { program := "ythchchbkpicdcaa", sum := "cda13dba9e89b34ac1c3abaa71aa1a19fcb0a7467ff79a98fa1fd1b582093957", func := "tallage/talkeep.FracField", spec := "fracField", apart := false }
def FracFieldSaid : Prop := fracFieldRow.holds Try.pinned (OpenSpec.ofChange fracFieldSpec)

/-- ITS FALSE NEIGHBOUR: 'it returns false'. Refute it at one input. -/
def fracFieldWrong : ChangeSpec := { name := "fracField", fn := fun _ => fun
  | [d1, d2, d3, d4, d5, d6] => { results := [.lit (.bool false)], args := [d1, d2, d3, d4, d5, d6] }
  | _ => none }
def FracFieldWrongFalsely : Prop := fracFieldRow.holds Try.pinned (OpenSpec.ofChange fracFieldWrong)

/-- 'talkeep.FracNone': WHATEVER THE INPUT: true; the input reads as it did. -/
def fracNoneSpec : ChangeSpec := { name := "fracNone", fn := fun _ => fun
  | [d1, d2, d3, d4] => { results := [.lit (.bool true)], args := [d1, d2, d3, d4] }
  | _ => none }
def fracNoneRow : OpenClaim := { program := "ythchchbkpicdcaa", sum := "cda13dba9e89b34ac1c3abaa71aa1a19fcb0a7467ff79a98fa1fd1b582093957", func := "tallage/talkeep.FracNone", spec := "fracNone", apart := false }
def FracNoneSaid : Prop := fracNoneRow.holds Try.pinned (OpenSpec.ofChange fracNoneSpec)

/-- ITS FALSE NEIGHBOUR: 'it returns false'. Refute it at one input. -/
def fracNoneWrong : ChangeSpec := { name := "fracNone", fn := fun _ => fun
  | [d1, d2, d3, d4] => { results := [.lit (.bool false)], args := [d1, d2, d3, d4] }
  | _ => none }
def FracNoneWrongFalsely : Prop := fracNoneRow.holds Try.pinned (OpenSpec.ofChange fracNoneWrong)

/-- 'talkeep.MoneyEnds': WHATEVER THE INPUT: true; the input reads as it did. -/
def moneyEndsSpec : ChangeSpec := { name := "moneyEnds", fn := fun _ => fun
  | [d1, d2, d3] => { results := [.lit (.bool true)], args := [d1, d2, d3] }
  | _ => none }
def moneyEndsRow : OpenClaim := { program := "ythchchbkpicdcaa", sum := "cda13dba9e89b34ac1c3abaa71aa1a19fcb0a7467ff79a98fa1fd1b582093957", func := "tallage/talkeep.MoneyEnds", spec := "moneyEnds", apart := false }
def MoneyEndsSaid : Prop := moneyEndsRow.holds Try.pinned (OpenSpec.ofChange moneyEndsSpec)

/-- ITS FALSE NEIGHBOUR: 'it returns false'. Refute it at one input. -/
def moneyEndsWrong : ChangeSpec := { name := "moneyEnds", fn := fun _ => fun
  | [d1, d2, d3] => { results := [.lit (.bool false)], args := [d1, d2, d3] }
  | _ => none }
def MoneyEndsWrongFalsely : Prop := moneyEndsRow.holds Try.pinned (OpenSpec.ofChange moneyEndsWrong)

/-- 'talkeep.MoneyTwice': WHATEVER THE INPUT: true; the input reads as it did. -/
def moneyTwiceSpec : ChangeSpec := { name := "moneyTwice", fn := fun _ => fun
  | [d1, d2, d3, d4] => { results := [.lit (.bool true)], args := [d1, d2, d3, d4] }
  | _ => none }
def moneyTwiceRow : OpenClaim := { program := "ythchchbkpicdcaa", sum := "cda13dba9e89b34ac1c3abaa71aa1a19fcb0a7467ff79a98fa1fd1b582093957", func := "tallage/talkeep.MoneyTwice", spec := "moneyTwice", apart := false }
def MoneyTwiceSaid : Prop := moneyTwiceRow.holds Try.pinned (OpenSpec.ofChange moneyTwiceSpec)

/-- ITS FALSE NEIGHBOUR: 'it returns false'. Refute it at one input. -/
def moneyTwiceWrong : ChangeSpec := { name := "moneyTwice", fn := fun _ => fun
  | [d1, d2, d3, d4] => { results := [.lit (.bool false)], args := [d1, d2, d3, d4] }
  | _ => none }
def MoneyTwiceWrongFalsely : Prop := moneyTwiceRow.holds Try.pinned (OpenSpec.ofChange moneyTwiceWrong)

/-- 'talkeep.MoneyGrows': WHATEVER THE INPUT: true; the input reads as it did. -/
def moneyGrowsSpec : ChangeSpec := { name := "moneyGrows", fn := fun _ => fun
  | [d1, d2, d3, d4, d5] => { results := [.lit (.bool true)], args := [d1, d2, d3, d4, d5] }
  | _ => none }
def moneyGrowsRow : OpenClaim := { program := "ythchchbkpicdcaa", sum := "cda13dba9e89b34ac1c3abaa71aa1a19fcb0a7467ff79a98fa1fd1b582093957", func := "tallage/talkeep.MoneyGrows", spec := "moneyGrows", apart := false }
def MoneyGrowsSaid : Prop := moneyGrowsRow.holds Try.pinned (OpenSpec.ofChange moneyGrowsSpec)

/-- ITS FALSE NEIGHBOUR: 'it returns false'. Refute it at one input. -/
def moneyGrowsWrong : ChangeSpec := { name := "moneyGrows", fn := fun _ => fun
  | [d1, d2, d3, d4, d5] => { results := [.lit (.bool false)], args := [d1, d2, d3, d4, d5] }
  | _ => none }
def MoneyGrowsWrongFalsely : Prop := moneyGrowsRow.holds Try.pinned (OpenSpec.ofChange moneyGrowsWrong)

/-- 'talkeep.MoneyBack': WHATEVER THE INPUT: true; the input reads as it did. -/
def moneyBackSpec : ChangeSpec := { name := "moneyBack", fn := fun _ => fun
  | [d1, d2, d3] => { results := [.lit (.bool true)], args := [d1, d2, d3] }
  | _ => none }
def moneyBackRow : OpenClaim := { program := "ythchchbkpicdcaa", sum := "cda13dba9e89b34ac1c3abaa71aa1a19fcb0a7467ff79a98fa1fd1b582093957", func := "tallage/talkeep.MoneyBack", spec := "moneyBack", apart := false }
def MoneyBackSaid : Prop := moneyBackRow.holds Try.pinned (OpenSpec.ofChange moneyBackSpec)

/-- ITS FALSE NEIGHBOUR: 'it returns false'. Refute it at one input. -/
def moneyBackWrong : ChangeSpec := { name := "moneyBack", fn := fun _ => fun
  | [d1, d2, d3] => { results := [.lit (.bool false)], args := [d1, d2, d3] }
  | _ => none }
def MoneyBackWrongFalsely : Prop := moneyBackRow.holds Try.pinned (OpenSpec.ofChange moneyBackWrong)

/-- 'talkeep.MoneyParts': WHATEVER THE INPUT: true; the input reads as it did. -/
def moneyPartsSpec : ChangeSpec := { name := "moneyParts", fn := fun _ => fun
  | [d1, d2, d3, d4] => { results := [.lit (.bool true)], args := [d1, d2, d3, d4] }
  | _ => none }
def moneyPartsRow : OpenClaim := { program := "ythchchbkpicdcaa", sum := "cda13dba9e89b34ac1c3abaa71aa1a19fcb0a7467ff79a98fa1fd1b582093957", func := "tallage/talkeep.MoneyParts", spec := "moneyParts", unfollowed := true, recurses := true, apart := false }
def MoneyPartsSaid : Prop := moneyPartsRow.holds Try.pinned (OpenSpec.ofChange moneyPartsSpec)

/-- ITS FALSE NEIGHBOUR: 'it returns false'. Refute it at one input. -/
def moneyPartsWrong : ChangeSpec := { name := "moneyParts", fn := fun _ => fun
  | [d1, d2, d3, d4] => { results := [.lit (.bool false)], args := [d1, d2, d3, d4] }
  | _ => none }
def MoneyPartsWrongFalsely : Prop := moneyPartsRow.holds Try.pinned (OpenSpec.ofChange moneyPartsWrong)

/- THE SECOND FORM. 'bulk': how many values and letters a reading holds, each counted each time it is reached (what is shared counts as often as it is met; a slice's spare places count too). A statement '..UptoSaid' is the law's where the arguments, and the package variables that the reading takes, are together of bulk at most 1048576: NARROWER than '..Said'. Prove '..Said' where nothing that the law and all that it calls make is longer than what came in: it says more and counts as full. Else prove '..UptoSaid'. A law counts once. -/
mutual
def uptoBulk {H : Type} : DataW H → Nat
  | .lit (.string bytes) => bytes.length + 1
  | .lit _ => 1
  | .nil => 1
  | .ptr d => uptoBulk d + 1
  | .slice elems spare => uptoBulkAll elems + uptoBulkAll spare + 1
  | .agg parts => uptoBulkAll parts + 1
  | .iface _ d => uptoBulk d + 1
  | .map entries => uptoBulkEntries entries + 1
  | .held _ => 1
def uptoBulkAll {H : Type} : List (DataW H) → Nat
  | [] => 0
  | d :: r => uptoBulk d + uptoBulkAll r
def uptoBulkEntries {H : Type} : List (Lit × DataW H) → Nat
  | [] => 0
  | x :: r => uptoBulkEntry x + uptoBulkEntries r
def uptoBulkEntry {H : Type} : Lit × DataW H → Nat
  | (.string bytes, d) => bytes.length + uptoBulk d + 1
  | (_, d) => uptoBulk d + 1
 end
def uptoSmall : (H : Type) → List (DataW H) → Bool := fun _ ds => decide (uptoBulkAll ds ≤ 1048576)
def OpenSpec.upto (s : _root_.Go.ChangeSpec) : _root_.Go.OpenSpec := { _root_.Go.OpenSpec.ofChange s with cond := some uptoSmall }

/-- 'talkeep.FracNear', WHERE WHAT IT READS IS OF BULK AT MOST 1048576: true; the input reads as it did. -/
def fracNearUptoRow : OpenClaim := { program := "ythchchbkpicdcaa", sum := "cda13dba9e89b34ac1c3abaa71aa1a19fcb0a7467ff79a98fa1fd1b582093957", func := "tallage/talkeep.FracNear", spec := "fracNear", unfollowed := true, recurses := true, apart := false, narrowed := true }
def FracNearUptoSaid : Prop := fracNearUptoRow.holds Try.pinned (OpenSpec.upto fracNearSpec)

/-- 'talkeep.FracWhole', WHERE WHAT IT READS IS OF BULK AT MOST 1048576: true; the input reads as it did. -/
def fracWholeUptoRow : OpenClaim := { program := "ythchchbkpicdcaa", sum := "cda13dba9e89b34ac1c3abaa71aa1a19fcb0a7467ff79a98fa1fd1b582093957", func := "tallage/talkeep.FracWhole", spec := "fracWhole", apart := false, narrowed := true }
def FracWholeUptoSaid : Prop := fracWholeUptoRow.holds Try.pinned (OpenSpec.upto fracWholeSpec)

/-- 'talkeep.FracNorm', WHERE WHAT IT READS IS OF BULK AT MOST 1048576: true; the input reads as it did. -/
def fracNormUptoRow : OpenClaim := { program := "ythchchbkpicdcaa", sum := "cda13dba9e89b34ac1c3abaa71aa1a19fcb0a7467ff79a98fa1fd1b582093957", func := "tallage/talkeep.FracNorm", spec := "fracNorm", apart := false, narrowed := true }
def FracNormUptoSaid : Prop := fracNormUptoRow.holds Try.pinned (OpenSpec.upto fracNormSpec)

/-- 'talkeep.FracGrows', WHERE WHAT IT READS IS OF BULK AT MOST 1048576: true; the input reads as it did. -/
def fracGrowsUptoRow : OpenClaim := { program := "ythchchbkpicdcaa", sum := "cda13dba9e89b34ac1c3abaa71aa1a19fcb0a7467ff79a98fa1fd1b582093957", func := "tallage/talkeep.FracGrows", spec := "fracGrows", apart := false, narrowed := true }
def FracGrowsUptoSaid : Prop := fracGrowsUptoRow.holds Try.pinned (OpenSpec.upto fracGrowsSpec)

/-- 'talkeep.FracOrder', WHERE WHAT IT READS IS OF BULK AT MOST 1048576: true; the input reads as it did. -/
def fracOrderUptoRow : OpenClaim := { program := "ythchchbkpicdcaa", sum := "cda13dba9e89b34ac1c3abaa71aa1a19fcb0a7467ff79a98fa1fd1b582093957", func := "tallage/talkeep.FracOrder", spec := "fracOrder", apart := false, narrowed := true }
def FracOrderUptoSaid : Prop := fracOrderUptoRow.holds Try.pinned (OpenSpec.upto fracOrderSpec)

/-- 'talkeep.FracField', WHERE WHAT IT READS IS OF BULK AT MOST 1048576: true; the input reads as it did. -/
def fracFieldUptoRow : OpenClaim := { program := "ythchchbkpicdcaa", sum := "cda13dba9e89b34ac1c3abaa71aa1a19fcb0a7467ff79a98fa1fd1b582093957", func := "tallage/talkeep.FracField", spec := "fracField", apart := false, narrowed := true }
def FracFieldUptoSaid : Prop := fracFieldUptoRow.holds Try.pinned (OpenSpec.upto fracFieldSpec)

/-- 'talkeep.FracNone', WHERE WHAT IT READS IS OF BULK AT MOST 1048576: true; the input reads as it did. -/
def fracNoneUptoRow : OpenClaim := { program := "ythchchbkpicdcaa", sum := "cda13dba9e89b34ac1c3abaa71aa1a19fcb0a7467ff79a98fa1fd1b582093957", func := "tallage/talkeep.FracNone", spec := "fracNone", apart := false, narrowed := true }
def FracNoneUptoSaid : Prop := fracNoneUptoRow.holds Try.pinned (OpenSpec.upto fracNoneSpec)

/-- 'talkeep.MoneyEnds', WHERE WHAT IT READS IS OF BULK AT MOST 1048576: true; the input reads as it did. -/
def moneyEndsUptoRow : OpenClaim := { program := "ythchchbkpicdcaa", sum := "cda13dba9e89b34ac1c3abaa71aa1a19fcb0a7467ff79a98fa1fd1b582093957", func := "tallage/talkeep.MoneyEnds", spec := "moneyEnds", apart := false, narrowed := true }
def MoneyEndsUptoSaid : Prop := moneyEndsUptoRow.holds Try.pinned (OpenSpec.upto moneyEndsSpec)

/-- 'talkeep.MoneyTwice', WHERE WHAT IT READS IS OF BULK AT MOST 1048576: true; the input reads as it did. -/
def moneyTwiceUptoRow : OpenClaim := { program := "ythchchbkpicdcaa", sum := "cda13dba9e89b34ac1c3abaa71aa1a19fcb0a7467ff79a98fa1fd1b582093957", func := "tallage/talkeep.MoneyTwice", spec := "moneyTwice", apart := false, narrowed := true }
def MoneyTwiceUptoSaid : Prop := moneyTwiceUptoRow.holds Try.pinned (OpenSpec.upto moneyTwiceSpec)

/-- 'talkeep.MoneyGrows', WHERE WHAT IT READS IS OF BULK AT MOST 1048576: true; the input reads as it did. -/
def moneyGrowsUptoRow : OpenClaim := { program := "ythchchbkpicdcaa", sum := "cda13dba9e89b34ac1c3abaa71aa1a19fcb0a7467ff79a98fa1fd1b582093957", func := "tallage/talkeep.MoneyGrows", spec := "moneyGrows", apart := false, narrowed := true }
def MoneyGrowsUptoSaid : Prop := moneyGrowsUptoRow.holds Try.pinned (OpenSpec.upto moneyGrowsSpec)

/-- 'talkeep.MoneyBack', WHERE WHAT IT READS IS OF BULK AT MOST 1048576: true; the input reads as it did. -/
def moneyBackUptoRow : OpenClaim := { program := "ythchchbkpicdcaa", sum := "cda13dba9e89b34ac1c3abaa71aa1a19fcb0a7467ff79a98fa1fd1b582093957", func := "tallage/talkeep.MoneyBack", spec := "moneyBack", apart := false, narrowed := true }
def MoneyBackUptoSaid : Prop := moneyBackUptoRow.holds Try.pinned (OpenSpec.upto moneyBackSpec)

/-- 'talkeep.MoneyParts', WHERE WHAT IT READS IS OF BULK AT MOST 1048576: true; the input reads as it did. -/
def moneyPartsUptoRow : OpenClaim := { program := "ythchchbkpicdcaa", sum := "cda13dba9e89b34ac1c3abaa71aa1a19fcb0a7467ff79a98fa1fd1b582093957", func := "tallage/talkeep.MoneyParts", spec := "moneyParts", unfollowed := true, recurses := true, apart := false, narrowed := true }
def MoneyPartsUptoSaid : Prop := moneyPartsUptoRow.holds Try.pinned (OpenSpec.upto moneyPartsSpec)

end Rows
end Go.Proofs.Ythchchbkpicdcaa
