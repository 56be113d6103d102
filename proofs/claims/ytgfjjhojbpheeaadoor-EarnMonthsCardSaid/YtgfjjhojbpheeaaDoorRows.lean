/-
  NARROWER THAN 'FOR EVERY INPUT', by the rows' own cells (each row's printed sentence says how): CalLast: laid · CalBack: laid · CalCycle: laid · CalGrows: laid · CalMonths: laid · CalAdds: laid · CalYears: laid · CalBetween: laid · CountYears: laid · CountNear: laid · CountAdds: laid · EarnMonths: laid.
  DERIVED. THE GIVEN ROWS OF THIS SEAT. 12 by the template 'for every input the law returns true; each argument reads behind the call as it read before'; 0 by the template 'total and deterministic' (their statements: YtgfjjhojbpheeaaDoorTotals.lean).
  GIVEN WITH THE SEED: the statements are not yours to turn. If you find one false, say at which input.
  Laid BY PROGRAM, IN A SANDBOX (cutbox-rows.mjs): the forced cells as the released guide's own fill.sh prints them over the translation d974c813e37f0858… (all of the seat's roots in one cut). By AI agents, Wed Nov 11 2026. No macro, syntax, notation, axiom, sorry.
-/
import Derived.Test.YtgfjjhojbpheeaaDoorChecked
import GoSem.Claim
import GoSem.ClaimJoined
import GoSem.ClaimMapViews
import Derived.JoinedTies
import Derived.KernelRfl
namespace Go.Proofs.YtgfjjhojbpheeaaDoor
/- THE CELL 'sum', in the pinned program and in every row, IS THE sha256 OF THE DUMP (.gsa) THAT YtgfjjhojbpheeaaDoorProg.lean LOADS. Nothing in Lean hashes anything: it is a label: what it is worth is what the hold of that sum in a sandbox is worth. -/
noncomputable def Tryd.pinned : Pinned := { name := "ytgfjjhojbpheeaadoor", sum := "d974c813e37f0858bd479e73abc73ba57a4e87847251d61b0069d03811680c4e", checked := Tryd.checked }
namespace Rows
def none {H : Type} : Left H := { results := [], args := [] }

/- WHAT THE LISTED PACKAGE-LEVEL VARIABLES READ AS WHEN THE CALL BEGINS. Each datum BY PROGRAM (the guide's laid-datum.mjs) off the statement by which the dump's own 'gosem.cut.vars' lays the variable. In a bare row this is a premise. The card (YtgfjjhojbpheeaaDoorCards.lean) ties it to the program's text. -/
def laid_tallage_cal_lengths {H : Type} : DataW H := .agg [.lit (.int .i64 0), .lit (.int .i64 31), .lit (.int .i64 28), .lit (.int .i64 31), .lit (.int .i64 30), .lit (.int .i64 31), .lit (.int .i64 30), .lit (.int .i64 31), .lit (.int .i64 31), .lit (.int .i64 30), .lit (.int .i64 31), .lit (.int .i64 30), .lit (.int .i64 31)]

/-- 'talkeep.CalLast': WHATEVER THE INPUT: true; the input reads as it did. -/
def calLastSpec : ChangeSpec := { name := "calLast", fn := fun _ => fun
  | [d] => { results := [.lit (.bool true)], args := [d] }
  | _ => none }
def calLastRow : OpenClaim := { program := "ytgfjjhojbpheeaadoor", sum := "d974c813e37f0858bd479e73abc73ba57a4e87847251d61b0069d03811680c4e", func := "tallage/talkeep.CalLast", spec := "calLast", named := ["tallage/cal.lengths"], apart := false, laid := [("tallage/cal.lengths", laid_tallage_cal_lengths)] }
def CalLastSaid : Prop := calLastRow.holds Tryd.pinned (OpenSpec.ofChange calLastSpec)

/-- ITS FALSE NEIGHBOUR: 'it returns false'. Refute it at one input. -/
def calLastWrong : ChangeSpec := { name := "calLast", fn := fun _ => fun
  | [d] => { results := [.lit (.bool false)], args := [d] }
  | _ => none }
def CalLastWrongFalsely : Prop := calLastRow.holds Tryd.pinned (OpenSpec.ofChange calLastWrong)

/-- 'talkeep.CalBack': WHATEVER THE INPUT: true; the input reads as it did. -/
def calBackSpec : ChangeSpec := { name := "calBack", fn := fun _ => fun
  | [d1, d2, d3] => { results := [.lit (.bool true)], args := [d1, d2, d3] }
  | _ => none }
def calBackRow : OpenClaim := { program := "ytgfjjhojbpheeaadoor", sum := "d974c813e37f0858bd479e73abc73ba57a4e87847251d61b0069d03811680c4e", func := "tallage/talkeep.CalBack", spec := "calBack", named := ["tallage/cal.lengths"], apart := false, laid := [("tallage/cal.lengths", laid_tallage_cal_lengths)] }
def CalBackSaid : Prop := calBackRow.holds Tryd.pinned (OpenSpec.ofChange calBackSpec)

/-- ITS FALSE NEIGHBOUR: 'it returns false'. Refute it at one input. -/
def calBackWrong : ChangeSpec := { name := "calBack", fn := fun _ => fun
  | [d1, d2, d3] => { results := [.lit (.bool false)], args := [d1, d2, d3] }
  | _ => none }
def CalBackWrongFalsely : Prop := calBackRow.holds Tryd.pinned (OpenSpec.ofChange calBackWrong)

/-- 'talkeep.CalCycle': WHATEVER THE INPUT: true; the input reads as it did. -/
def calCycleSpec : ChangeSpec := { name := "calCycle", fn := fun _ => fun
  | [d] => { results := [.lit (.bool true)], args := [d] }
  | _ => none }
def calCycleRow : OpenClaim := { program := "ytgfjjhojbpheeaadoor", sum := "d974c813e37f0858bd479e73abc73ba57a4e87847251d61b0069d03811680c4e", func := "tallage/talkeep.CalCycle", spec := "calCycle", named := ["tallage/cal.lengths"], apart := false, laid := [("tallage/cal.lengths", laid_tallage_cal_lengths)] }
def CalCycleSaid : Prop := calCycleRow.holds Tryd.pinned (OpenSpec.ofChange calCycleSpec)

/-- ITS FALSE NEIGHBOUR: 'it returns false'. Refute it at one input. -/
def calCycleWrong : ChangeSpec := { name := "calCycle", fn := fun _ => fun
  | [d] => { results := [.lit (.bool false)], args := [d] }
  | _ => none }
def CalCycleWrongFalsely : Prop := calCycleRow.holds Tryd.pinned (OpenSpec.ofChange calCycleWrong)

/-- 'talkeep.CalGrows': WHATEVER THE INPUT: true; the input reads as it did. -/
def calGrowsSpec : ChangeSpec := { name := "calGrows", fn := fun _ => fun
  | [d1, d2, d3, d4] => { results := [.lit (.bool true)], args := [d1, d2, d3, d4] }
  | _ => none }
def calGrowsRow : OpenClaim := { program := "ytgfjjhojbpheeaadoor", sum := "d974c813e37f0858bd479e73abc73ba57a4e87847251d61b0069d03811680c4e", func := "tallage/talkeep.CalGrows", spec := "calGrows", named := ["tallage/cal.lengths"], apart := false, laid := [("tallage/cal.lengths", laid_tallage_cal_lengths)] }
def CalGrowsSaid : Prop := calGrowsRow.holds Tryd.pinned (OpenSpec.ofChange calGrowsSpec)

/-- ITS FALSE NEIGHBOUR: 'it returns false'. Refute it at one input. -/
def calGrowsWrong : ChangeSpec := { name := "calGrows", fn := fun _ => fun
  | [d1, d2, d3, d4] => { results := [.lit (.bool false)], args := [d1, d2, d3, d4] }
  | _ => none }
def CalGrowsWrongFalsely : Prop := calGrowsRow.holds Tryd.pinned (OpenSpec.ofChange calGrowsWrong)

/-- 'talkeep.CalMonths': WHATEVER THE INPUT: true; the input reads as it did. -/
def calMonthsSpec : ChangeSpec := { name := "calMonths", fn := fun _ => fun
  | [d1, d2, d3] => { results := [.lit (.bool true)], args := [d1, d2, d3] }
  | _ => none }
def calMonthsRow : OpenClaim := { program := "ytgfjjhojbpheeaadoor", sum := "d974c813e37f0858bd479e73abc73ba57a4e87847251d61b0069d03811680c4e", func := "tallage/talkeep.CalMonths", spec := "calMonths", named := ["tallage/cal.lengths"], apart := false, laid := [("tallage/cal.lengths", laid_tallage_cal_lengths)] }
def CalMonthsSaid : Prop := calMonthsRow.holds Tryd.pinned (OpenSpec.ofChange calMonthsSpec)

/-- ITS FALSE NEIGHBOUR: 'it returns false'. Refute it at one input. -/
def calMonthsWrong : ChangeSpec := { name := "calMonths", fn := fun _ => fun
  | [d1, d2, d3] => { results := [.lit (.bool false)], args := [d1, d2, d3] }
  | _ => none }
def CalMonthsWrongFalsely : Prop := calMonthsRow.holds Tryd.pinned (OpenSpec.ofChange calMonthsWrong)

/-- 'talkeep.CalAdds': WHATEVER THE INPUT: true; the input reads as it did. -/
def calAddsSpec : ChangeSpec := { name := "calAdds", fn := fun _ => fun
  | [d1, d2, d3] => { results := [.lit (.bool true)], args := [d1, d2, d3] }
  | _ => none }
def calAddsRow : OpenClaim := { program := "ytgfjjhojbpheeaadoor", sum := "d974c813e37f0858bd479e73abc73ba57a4e87847251d61b0069d03811680c4e", func := "tallage/talkeep.CalAdds", spec := "calAdds", named := ["tallage/cal.lengths"], apart := false, laid := [("tallage/cal.lengths", laid_tallage_cal_lengths)] }
def CalAddsSaid : Prop := calAddsRow.holds Tryd.pinned (OpenSpec.ofChange calAddsSpec)

/-- ITS FALSE NEIGHBOUR: 'it returns false'. Refute it at one input. -/
def calAddsWrong : ChangeSpec := { name := "calAdds", fn := fun _ => fun
  | [d1, d2, d3] => { results := [.lit (.bool false)], args := [d1, d2, d3] }
  | _ => none }
def CalAddsWrongFalsely : Prop := calAddsRow.holds Tryd.pinned (OpenSpec.ofChange calAddsWrong)

/-- 'talkeep.CalYears': WHATEVER THE INPUT: true; the input reads as it did. -/
def calYearsSpec : ChangeSpec := { name := "calYears", fn := fun _ => fun
  | [d1, d2] => { results := [.lit (.bool true)], args := [d1, d2] }
  | _ => none }
def calYearsRow : OpenClaim := { program := "ytgfjjhojbpheeaadoor", sum := "d974c813e37f0858bd479e73abc73ba57a4e87847251d61b0069d03811680c4e", func := "tallage/talkeep.CalYears", spec := "calYears", named := ["tallage/cal.lengths"], apart := false, laid := [("tallage/cal.lengths", laid_tallage_cal_lengths)] }
def CalYearsSaid : Prop := calYearsRow.holds Tryd.pinned (OpenSpec.ofChange calYearsSpec)

/-- ITS FALSE NEIGHBOUR: 'it returns false'. Refute it at one input. -/
def calYearsWrong : ChangeSpec := { name := "calYears", fn := fun _ => fun
  | [d1, d2] => { results := [.lit (.bool false)], args := [d1, d2] }
  | _ => none }
def CalYearsWrongFalsely : Prop := calYearsRow.holds Tryd.pinned (OpenSpec.ofChange calYearsWrong)

/-- 'talkeep.CalBetween': WHATEVER THE INPUT: true; the input reads as it did. -/
def calBetweenSpec : ChangeSpec := { name := "calBetween", fn := fun _ => fun
  | [d1, d2, d3] => { results := [.lit (.bool true)], args := [d1, d2, d3] }
  | _ => none }
def calBetweenRow : OpenClaim := { program := "ytgfjjhojbpheeaadoor", sum := "d974c813e37f0858bd479e73abc73ba57a4e87847251d61b0069d03811680c4e", func := "tallage/talkeep.CalBetween", spec := "calBetween", recurses := true, named := ["tallage/cal.lengths"], apart := false, laid := [("tallage/cal.lengths", laid_tallage_cal_lengths)] }
def CalBetweenSaid : Prop := calBetweenRow.holds Tryd.pinned (OpenSpec.ofChange calBetweenSpec)

/-- ITS FALSE NEIGHBOUR: 'it returns false'. Refute it at one input. -/
def calBetweenWrong : ChangeSpec := { name := "calBetween", fn := fun _ => fun
  | [d1, d2, d3] => { results := [.lit (.bool false)], args := [d1, d2, d3] }
  | _ => none }
def CalBetweenWrongFalsely : Prop := calBetweenRow.holds Tryd.pinned (OpenSpec.ofChange calBetweenWrong)

/-- 'talkeep.CountYears': WHATEVER THE INPUT: true; the input reads as it did. -/
def countYearsSpec : ChangeSpec := { name := "countYears", fn := fun _ => fun
  | [d1, d2, d3] => { results := [.lit (.bool true)], args := [d1, d2, d3] }
  | _ => none }
def countYearsRow : OpenClaim := { program := "ytgfjjhojbpheeaadoor", sum := "d974c813e37f0858bd479e73abc73ba57a4e87847251d61b0069d03811680c4e", func := "tallage/talkeep.CountYears", spec := "countYears", named := ["tallage/cal.lengths"], apart := false, laid := [("tallage/cal.lengths", laid_tallage_cal_lengths)] }
def CountYearsSaid : Prop := countYearsRow.holds Tryd.pinned (OpenSpec.ofChange countYearsSpec)

/-- ITS FALSE NEIGHBOUR: 'it returns false'. Refute it at one input. -/
def countYearsWrong : ChangeSpec := { name := "countYears", fn := fun _ => fun
  | [d1, d2, d3] => { results := [.lit (.bool false)], args := [d1, d2, d3] }
  | _ => none }
def CountYearsWrongFalsely : Prop := countYearsRow.holds Tryd.pinned (OpenSpec.ofChange countYearsWrong)

/-- 'talkeep.CountNear': WHATEVER THE INPUT: true; the input reads as it did. -/
def countNearSpec : ChangeSpec := { name := "countNear", fn := fun _ => fun
  | [d1, d2] => { results := [.lit (.bool true)], args := [d1, d2] }
  | _ => none }
def countNearRow : OpenClaim := { program := "ytgfjjhojbpheeaadoor", sum := "d974c813e37f0858bd479e73abc73ba57a4e87847251d61b0069d03811680c4e", func := "tallage/talkeep.CountNear", spec := "countNear", named := ["tallage/cal.lengths"], apart := false, laid := [("tallage/cal.lengths", laid_tallage_cal_lengths)] }
def CountNearSaid : Prop := countNearRow.holds Tryd.pinned (OpenSpec.ofChange countNearSpec)

/-- ITS FALSE NEIGHBOUR: 'it returns false'. Refute it at one input. -/
def countNearWrong : ChangeSpec := { name := "countNear", fn := fun _ => fun
  | [d1, d2] => { results := [.lit (.bool false)], args := [d1, d2] }
  | _ => none }
def CountNearWrongFalsely : Prop := countNearRow.holds Tryd.pinned (OpenSpec.ofChange countNearWrong)

/-- 'talkeep.CountAdds': WHATEVER THE INPUT: true; the input reads as it did. -/
def countAddsSpec : ChangeSpec := { name := "countAdds", fn := fun _ => fun
  | [d1, d2, d3, d4] => { results := [.lit (.bool true)], args := [d1, d2, d3, d4] }
  | _ => none }
def countAddsRow : OpenClaim := { program := "ytgfjjhojbpheeaadoor", sum := "d974c813e37f0858bd479e73abc73ba57a4e87847251d61b0069d03811680c4e", func := "tallage/talkeep.CountAdds", spec := "countAdds", recurses := true, named := ["tallage/cal.lengths"], apart := false, laid := [("tallage/cal.lengths", laid_tallage_cal_lengths)] }
def CountAddsSaid : Prop := countAddsRow.holds Tryd.pinned (OpenSpec.ofChange countAddsSpec)

/-- ITS FALSE NEIGHBOUR: 'it returns false'. Refute it at one input. -/
def countAddsWrong : ChangeSpec := { name := "countAdds", fn := fun _ => fun
  | [d1, d2, d3, d4] => { results := [.lit (.bool false)], args := [d1, d2, d3, d4] }
  | _ => none }
def CountAddsWrongFalsely : Prop := countAddsRow.holds Tryd.pinned (OpenSpec.ofChange countAddsWrong)

/-- 'talkeep.EarnMonths': WHATEVER THE INPUT: true; the input reads as it did. -/
def earnMonthsSpec : ChangeSpec := { name := "earnMonths", fn := fun _ => fun
  | [d1, d2, d3, d4] => { results := [.lit (.bool true)], args := [d1, d2, d3, d4] }
  | _ => none }
def earnMonthsRow : OpenClaim := { program := "ytgfjjhojbpheeaadoor", sum := "d974c813e37f0858bd479e73abc73ba57a4e87847251d61b0069d03811680c4e", func := "tallage/talkeep.EarnMonths", spec := "earnMonths", named := ["tallage/cal.lengths"], apart := false, laid := [("tallage/cal.lengths", laid_tallage_cal_lengths)] }
def EarnMonthsSaid : Prop := earnMonthsRow.holds Tryd.pinned (OpenSpec.ofChange earnMonthsSpec)

/-- ITS FALSE NEIGHBOUR: 'it returns false'. Refute it at one input. -/
def earnMonthsWrong : ChangeSpec := { name := "earnMonths", fn := fun _ => fun
  | [d1, d2, d3, d4] => { results := [.lit (.bool false)], args := [d1, d2, d3, d4] }
  | _ => none }
def EarnMonthsWrongFalsely : Prop := earnMonthsRow.holds Tryd.pinned (OpenSpec.ofChange earnMonthsWrong)

/- THE SECOND FORM. 'bulk': how many values and letters a reading holds, each counted each time it is reached (what is shared counts as often as it is met; a slice's spare places count too). A statement '..UptoSaid' is the law's where the arguments, and the package variables that the reading takes, are together of bulk at most 1048576: NARROWER than '..Said'. Prove '..Said' where nothing that the law and all that it calls make is longer than what came in: it says more and counts as full. Else prove '..UptoSaid'. A law counts once. -/
mutual
def uptoBulk {H : Type} : DataW H → Nat
  | .lit (.string bytes) => bytes.length + 1
  | .lit _ => 1
  | .nil => 1
  | .ptr d => uptoBulk d + 1
  | .slice elems spare => uptoBulkAll elems + uptoBulkAll spare + 1
  | .agg parts => uptoBulkAll parts + 1
  | .iface _ d => uptoBulk d + 1
  | .map entries => uptoBulkEntries entries + 1
  | .held _ => 1
def uptoBulkAll {H : Type} : List (DataW H) → Nat
  | [] => 0
  | d :: r => uptoBulk d + uptoBulkAll r
def uptoBulkEntries {H : Type} : List (Lit × DataW H) → Nat
  | [] => 0
  | x :: r => uptoBulkEntry x + uptoBulkEntries r
def uptoBulkEntry {H : Type} : Lit × DataW H → Nat
  | (.string bytes, d) => bytes.length + uptoBulk d + 1
  | (_, d) => uptoBulk d + 1
 end
def uptoSmall : (H : Type) → List (DataW H) → Bool := fun _ ds => decide (uptoBulkAll ds ≤ 1048576)
def OpenSpec.upto (s : _root_.Go.ChangeSpec) : _root_.Go.OpenSpec := { _root_.Go.OpenSpec.ofChange s with cond := some uptoSmall }

/-- 'talkeep.CalLast', WHERE WHAT IT READS IS OF BULK AT MOST 1048576: true; the input reads as it did. -/
def calLastUptoRow : OpenClaim := { program := "ytgfjjhojbpheeaadoor", sum := "d974c813e37f0858bd479e73abc73ba57a4e87847251d61b0069d03811680c4e", func := "tallage/talkeep.CalLast", spec := "calLast", named := ["tallage/cal.lengths"], apart := false, laid := [("tallage/cal.lengths", laid_tallage_cal_lengths)], narrowed := true }
def CalLastUptoSaid : Prop := calLastUptoRow.holds Tryd.pinned (OpenSpec.upto calLastSpec)

/-- 'talkeep.CalBack', WHERE WHAT IT READS IS OF BULK AT MOST 1048576: true; the input reads as it did. -/
def calBackUptoRow : OpenClaim := { program := "ytgfjjhojbpheeaadoor", sum := "d974c813e37f0858bd479e73abc73ba57a4e87847251d61b0069d03811680c4e", func := "tallage/talkeep.CalBack", spec := "calBack", named := ["tallage/cal.lengths"], apart := false, laid := [("tallage/cal.lengths", laid_tallage_cal_lengths)], narrowed := true }
def CalBackUptoSaid : Prop := calBackUptoRow.holds Tryd.pinned (OpenSpec.upto calBackSpec)

/-- 'talkeep.CalCycle', WHERE WHAT IT READS IS OF BULK AT MOST 1048576: true; the input reads as it did. -/
def calCycleUptoRow : OpenClaim := { program := "ytgfjjhojbpheeaadoor", sum := "d974c813e37f0858bd479e73abc73ba57a4e87847251d61b0069d03811680c4e", func := "tallage/talkeep.CalCycle", spec := "calCycle", named := ["tallage/cal.lengths"], apart := false, laid := [("tallage/cal.lengths", laid_tallage_cal_lengths)], narrowed := true }
def CalCycleUptoSaid : Prop := calCycleUptoRow.holds Tryd.pinned (OpenSpec.upto calCycleSpec)

/-- 'talkeep.CalGrows', WHERE WHAT IT READS IS OF BULK AT MOST 1048576: true; the input reads as it did. -/
def calGrowsUptoRow : OpenClaim := { program := "ytgfjjhojbpheeaadoor", sum := "d974c813e37f0858bd479e73abc73ba57a4e87847251d61b0069d03811680c4e", func := "tallage/talkeep.CalGrows", spec := "calGrows", named := ["tallage/cal.lengths"], apart := false, laid := [("tallage/cal.lengths", laid_tallage_cal_lengths)], narrowed := true }
def CalGrowsUptoSaid : Prop := calGrowsUptoRow.holds Tryd.pinned (OpenSpec.upto calGrowsSpec)

/-- 'talkeep.CalMonths', WHERE WHAT IT READS IS OF BULK AT MOST 1048576: true; the input reads as it did. -/
def calMonthsUptoRow : OpenClaim := { program := "ytgfjjhojbpheeaadoor", sum := "d974c813e37f0858bd479e73abc73ba57a4e87847251d61b0069d03811680c4e", func := "tallage/talkeep.CalMonths", spec := "calMonths", named := ["tallage/cal.lengths"], apart := false, laid := [("tallage/cal.lengths", laid_tallage_cal_lengths)], narrowed := true }
def CalMonthsUptoSaid : Prop := calMonthsUptoRow.holds Tryd.pinned (OpenSpec.upto calMonthsSpec)

/-- 'talkeep.CalAdds', WHERE WHAT IT READS IS OF BULK AT MOST 1048576: true; the input reads as it did. -/
def calAddsUptoRow : OpenClaim := { program := "ytgfjjhojbpheeaadoor", sum := "d974c813e37f0858bd479e73abc73ba57a4e87847251d61b0069d03811680c4e", func := "tallage/talkeep.CalAdds", spec := "calAdds", named := ["tallage/cal.lengths"], apart := false, laid := [("tallage/cal.lengths", laid_tallage_cal_lengths)], narrowed := true }
def CalAddsUptoSaid : Prop := calAddsUptoRow.holds Tryd.pinned (OpenSpec.upto calAddsSpec)

/-- 'talkeep.CalYears', WHERE WHAT IT READS IS OF BULK AT MOST 1048576: true; the input reads as it did. -/
def calYearsUptoRow : OpenClaim := { program := "ytgfjjhojbpheeaadoor", sum := "d974c813e37f0858bd479e73abc73ba57a4e87847251d61b0069d03811680c4e", func := "tallage/talkeep.CalYears", spec := "calYears", named := ["tallage/cal.lengths"], apart := false, laid := [("tallage/cal.lengths", laid_tallage_cal_lengths)], narrowed := true }
def CalYearsUptoSaid : Prop := calYearsUptoRow.holds Tryd.pinned (OpenSpec.upto calYearsSpec)

/-- 'talkeep.CalBetween', WHERE WHAT IT READS IS OF BULK AT MOST 1048576: true; the input reads as it did. -/
def calBetweenUptoRow : OpenClaim := { program := "ytgfjjhojbpheeaadoor", sum := "d974c813e37f0858bd479e73abc73ba57a4e87847251d61b0069d03811680c4e", func := "tallage/talkeep.CalBetween", spec := "calBetween", recurses := true, named := ["tallage/cal.lengths"], apart := false, laid := [("tallage/cal.lengths", laid_tallage_cal_lengths)], narrowed := true }
def CalBetweenUptoSaid : Prop := calBetweenUptoRow.holds Tryd.pinned (OpenSpec.upto calBetweenSpec)

/-- 'talkeep.CountYears', WHERE WHAT IT READS IS OF BULK AT MOST 1048576: true; the input reads as it did. -/
def countYearsUptoRow : OpenClaim := { program := "ytgfjjhojbpheeaadoor", sum := "d974c813e37f0858bd479e73abc73ba57a4e87847251d61b0069d03811680c4e", func := "tallage/talkeep.CountYears", spec := "countYears", named := ["tallage/cal.lengths"], apart := false, laid := [("tallage/cal.lengths", laid_tallage_cal_lengths)], narrowed := true }
def CountYearsUptoSaid : Prop := countYearsUptoRow.holds Tryd.pinned (OpenSpec.upto countYearsSpec)

/-- 'talkeep.CountNear', WHERE WHAT IT READS IS OF BULK AT MOST 1048576: true; the input reads as it did. -/
def countNearUptoRow : OpenClaim := { program := "ytgfjjhojbpheeaadoor", sum := "d974c813e37f0858bd479e73abc73ba57a4e87847251d61b0069d03811680c4e", func := "tallage/talkeep.CountNear", spec := "countNear", named := ["tallage/cal.lengths"], apart := false, laid := [("tallage/cal.lengths", laid_tallage_cal_lengths)], narrowed := true }
def CountNearUptoSaid : Prop := countNearUptoRow.holds Tryd.pinned (OpenSpec.upto countNearSpec)

/-- 'talkeep.CountAdds', WHERE WHAT IT READS IS OF BULK AT MOST 1048576: true; the input reads as it did. -/
def countAddsUptoRow : OpenClaim := { program := "ytgfjjhojbpheeaadoor", sum := "d974c813e37f0858bd479e73abc73ba57a4e87847251d61b0069d03811680c4e", func := "tallage/talkeep.CountAdds", spec := "countAdds", recurses := true, named := ["tallage/cal.lengths"], apart := false, laid := [("tallage/cal.lengths", laid_tallage_cal_lengths)], narrowed := true }
def CountAddsUptoSaid : Prop := countAddsUptoRow.holds Tryd.pinned (OpenSpec.upto countAddsSpec)

/-- 'talkeep.EarnMonths', WHERE WHAT IT READS IS OF BULK AT MOST 1048576: true; the input reads as it did. -/
def earnMonthsUptoRow : OpenClaim := { program := "ytgfjjhojbpheeaadoor", sum := "d974c813e37f0858bd479e73abc73ba57a4e87847251d61b0069d03811680c4e", func := "tallage/talkeep.EarnMonths", spec := "earnMonths", named := ["tallage/cal.lengths"], apart := false, laid := [("tallage/cal.lengths", laid_tallage_cal_lengths)], narrowed := true }
def EarnMonthsUptoSaid : Prop := earnMonthsUptoRow.holds Tryd.pinned (OpenSpec.upto earnMonthsSpec)

end Rows
end Go.Proofs.YtgfjjhojbpheeaaDoor
