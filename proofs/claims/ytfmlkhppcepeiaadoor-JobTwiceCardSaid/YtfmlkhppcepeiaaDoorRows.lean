/-
  NARROWER THAN 'FOR EVERY INPUT', by the rows' own cells (each row's printed sentence says how): JobGrows: laid · JobApart: laid · JobAll: laid · JobTwice: laid.
  DERIVED. THE GIVEN ROWS OF THIS SEAT. 4 by the template 'for every input the law returns true; each argument reads behind the call as it read before'; 0 by the template 'total and deterministic' (their statements: YtfmlkhppcepeiaaDoorTotals.lean).
  GIVEN WITH THE SEED: the statements are not yours to turn. If you find one false, say at which input.
  Laid BY PROGRAM, IN A SANDBOX (cutbox-rows.mjs): the forced cells as the released guide's own fill.sh prints them over the translation 2e22a8f1fb5f29f9… (all of the seat's roots in one cut). By AI agents, Wed Nov 11 2026. No macro, syntax, notation, axiom, sorry.
-/
import Derived.Test.YtfmlkhppcepeiaaDoorChecked
import GoSem.Claim
import GoSem.ClaimJoined
import GoSem.ClaimMapViews
import Derived.JoinedTies
import Derived.KernelRfl
namespace Go.Proofs.YtfmlkhppcepeiaaDoor
/- THE CELL 'sum', in the pinned program and in every row, IS THE sha256 OF THE DUMP (.gsa) THAT YtfmlkhppcepeiaaDoorProg.lean LOADS. Nothing in Lean hashes anything: it is a label: what it is worth is what the hold of that sum in a sandbox is worth. -/
noncomputable def Tryd.pinned : Pinned := { name := "ytfmlkhppcepeiaadoor", sum := "2e22a8f1fb5f29f9e61445b6e1446a53647aa733aa016f256e816ef126f7074d", checked := Tryd.checked }
namespace Rows
def none {H : Type} : Left H := { results := [], args := [] }

/- WHAT THE LISTED PACKAGE-LEVEL VARIABLES READ AS WHEN THE CALL BEGINS. Each datum BY PROGRAM (the guide's laid-datum.mjs) off the statement by which the dump's own 'gosem.cut.vars' lays the variable. In a bare row this is a premise. The card (YtfmlkhppcepeiaaDoorCards.lean) ties it to the program's text. -/
def laid_tallage_cal_lengths {H : Type} : DataW H := .agg [.lit (.int .i64 0), .lit (.int .i64 31), .lit (.int .i64 28), .lit (.int .i64 31), .lit (.int .i64 30), .lit (.int .i64 31), .lit (.int .i64 30), .lit (.int .i64 31), .lit (.int .i64 31), .lit (.int .i64 30), .lit (.int .i64 31), .lit (.int .i64 30), .lit (.int .i64 31)]

/-- 'talkeep.JobGrows': WHATEVER THE INPUT: true; the input reads as it did. -/
def jobGrowsSpec : ChangeSpec := { name := "jobGrows", fn := fun _ => fun
  | [d1, d2, d3] => { results := [.lit (.bool true)], args := [d1, d2, d3] }
  | _ => none }
def jobGrowsRow : OpenClaim := { program := "ytfmlkhppcepeiaadoor", sum := "2e22a8f1fb5f29f9e61445b6e1446a53647aa733aa016f256e816ef126f7074d", func := "tallage/talkeep.JobGrows", spec := "jobGrows", inPlace := ["internal/bytealg.IndexByteString", "internal/bytealg.IndexString"], unfollowed := true, recurses := true, named := ["internal/bytealg.MaxLen", "tallage/cal.lengths"], apart := false, laid := [("tallage/cal.lengths", laid_tallage_cal_lengths)] }
def JobGrowsSaid : Prop := jobGrowsRow.holds Tryd.pinned (OpenSpec.ofChange jobGrowsSpec)

/-- ITS FALSE NEIGHBOUR: 'it returns false'. Refute it at one input. -/
def jobGrowsWrong : ChangeSpec := { name := "jobGrows", fn := fun _ => fun
  | [d1, d2, d3] => { results := [.lit (.bool false)], args := [d1, d2, d3] }
  | _ => none }
def JobGrowsWrongFalsely : Prop := jobGrowsRow.holds Tryd.pinned (OpenSpec.ofChange jobGrowsWrong)

/-- 'talkeep.JobApart': WHATEVER THE INPUT: true; the input reads as it did. -/
def jobApartSpec : ChangeSpec := { name := "jobApart", fn := fun _ => fun
  | [d1, d2] => { results := [.lit (.bool true)], args := [d1, d2] }
  | _ => none }
def jobApartRow : OpenClaim := { program := "ytfmlkhppcepeiaadoor", sum := "2e22a8f1fb5f29f9e61445b6e1446a53647aa733aa016f256e816ef126f7074d", func := "tallage/talkeep.JobApart", spec := "jobApart", inPlace := ["internal/bytealg.IndexByteString", "internal/bytealg.IndexString"], unfollowed := true, recurses := true, named := ["internal/bytealg.MaxLen", "tallage/cal.lengths"], apart := false, laid := [("tallage/cal.lengths", laid_tallage_cal_lengths)] }
def JobApartSaid : Prop := jobApartRow.holds Tryd.pinned (OpenSpec.ofChange jobApartSpec)

/-- ITS FALSE NEIGHBOUR: 'it returns false'. Refute it at one input. -/
def jobApartWrong : ChangeSpec := { name := "jobApart", fn := fun _ => fun
  | [d1, d2] => { results := [.lit (.bool false)], args := [d1, d2] }
  | _ => none }
def JobApartWrongFalsely : Prop := jobApartRow.holds Tryd.pinned (OpenSpec.ofChange jobApartWrong)

/-- 'talkeep.JobAll': WHATEVER THE INPUT: true; the input reads as it did. -/
def jobAllSpec : ChangeSpec := { name := "jobAll", fn := fun _ => fun
  | [d1, d2] => { results := [.lit (.bool true)], args := [d1, d2] }
  | _ => none }
def jobAllRow : OpenClaim := { program := "ytfmlkhppcepeiaadoor", sum := "2e22a8f1fb5f29f9e61445b6e1446a53647aa733aa016f256e816ef126f7074d", func := "tallage/talkeep.JobAll", spec := "jobAll", inPlace := ["internal/bytealg.IndexByteString", "internal/bytealg.IndexString"], unfollowed := true, recurses := true, named := ["internal/bytealg.MaxLen", "tallage/cal.lengths"], apart := false, laid := [("tallage/cal.lengths", laid_tallage_cal_lengths)] }
def JobAllSaid : Prop := jobAllRow.holds Tryd.pinned (OpenSpec.ofChange jobAllSpec)

/-- ITS FALSE NEIGHBOUR: 'it returns false'. Refute it at one input. -/
def jobAllWrong : ChangeSpec := { name := "jobAll", fn := fun _ => fun
  | [d1, d2] => { results := [.lit (.bool false)], args := [d1, d2] }
  | _ => none }
def JobAllWrongFalsely : Prop := jobAllRow.holds Tryd.pinned (OpenSpec.ofChange jobAllWrong)

/-- 'talkeep.JobTwice': WHATEVER THE INPUT: true; the input reads as it did. -/
def jobTwiceSpec : ChangeSpec := { name := "jobTwice", fn := fun _ => fun
  | [d1, d2, d3, d4] => { results := [.lit (.bool true)], args := [d1, d2, d3, d4] }
  | _ => none }
def jobTwiceRow : OpenClaim := { program := "ytfmlkhppcepeiaadoor", sum := "2e22a8f1fb5f29f9e61445b6e1446a53647aa733aa016f256e816ef126f7074d", func := "tallage/talkeep.JobTwice", spec := "jobTwice", inPlace := ["internal/bytealg.abigen_runtime_cmpstring", "internal/bytealg.IndexByteString", "internal/bytealg.IndexString", "slices.overlaps[tallage/api.Entry]"], unfollowed := true, recurses := true, named := ["internal/bytealg.MaxLen", "tallage/cal.lengths"], apart := false, laid := [("tallage/cal.lengths", laid_tallage_cal_lengths)] }
def JobTwiceSaid : Prop := jobTwiceRow.holds Tryd.pinned (OpenSpec.ofChange jobTwiceSpec)

/-- ITS FALSE NEIGHBOUR: 'it returns false'. Refute it at one input. -/
def jobTwiceWrong : ChangeSpec := { name := "jobTwice", fn := fun _ => fun
  | [d1, d2, d3, d4] => { results := [.lit (.bool false)], args := [d1, d2, d3, d4] }
  | _ => none }
def JobTwiceWrongFalsely : Prop := jobTwiceRow.holds Tryd.pinned (OpenSpec.ofChange jobTwiceWrong)

/- THE SECOND FORM. 'bulk': how many values and letters a reading holds, each counted each time it is reached (what is shared counts as often as it is met; a slice's spare places count too). A statement '..UptoSaid' is the law's where the arguments, and the package variables that the reading takes, are together of bulk at most 1048576: NARROWER than '..Said'. Prove '..Said' where nothing that the law and all that it calls make is longer than what came in: it says more and counts as full. Else prove '..UptoSaid'. A law counts once. -/
mutual
def uptoBulk {H : Type} : DataW H → Nat
  | .lit (.string bytes) => bytes.length + 1
  | .lit _ => 1
  | .nil => 1
  | .ptr d => uptoBulk d + 1
  | .slice elems spare => uptoBulkAll elems + uptoBulkAll spare + 1
  | .agg parts => uptoBulkAll parts + 1
  | .iface _ d => uptoBulk d + 1
  | .map entries => uptoBulkEntries entries + 1
  | .held _ => 1
def uptoBulkAll {H : Type} : List (DataW H) → Nat
  | [] => 0
  | d :: r => uptoBulk d + uptoBulkAll r
def uptoBulkEntries {H : Type} : List (Lit × DataW H) → Nat
  | [] => 0
  | x :: r => uptoBulkEntry x + uptoBulkEntries r
def uptoBulkEntry {H : Type} : Lit × DataW H → Nat
  | (.string bytes, d) => bytes.length + uptoBulk d + 1
  | (_, d) => uptoBulk d + 1
 end
def uptoSmall : (H : Type) → List (DataW H) → Bool := fun _ ds => decide (uptoBulkAll ds ≤ 1048576)
def OpenSpec.upto (s : _root_.Go.ChangeSpec) : _root_.Go.OpenSpec := { _root_.Go.OpenSpec.ofChange s with cond := some uptoSmall }

/-- 'talkeep.JobGrows', WHERE WHAT IT READS IS OF BULK AT MOST 1048576: true; the input reads as it did. -/
def jobGrowsUptoRow : OpenClaim := { program := "ytfmlkhppcepeiaadoor", sum := "2e22a8f1fb5f29f9e61445b6e1446a53647aa733aa016f256e816ef126f7074d", func := "tallage/talkeep.JobGrows", spec := "jobGrows", inPlace := ["internal/bytealg.IndexByteString", "internal/bytealg.IndexString"], unfollowed := true, recurses := true, named := ["internal/bytealg.MaxLen", "tallage/cal.lengths"], apart := false, laid := [("tallage/cal.lengths", laid_tallage_cal_lengths)], narrowed := true }
def JobGrowsUptoSaid : Prop := jobGrowsUptoRow.holds Tryd.pinned (OpenSpec.upto jobGrowsSpec)

/-- 'talkeep.JobApart', WHERE WHAT IT READS IS OF BULK AT MOST 1048576: true; the input reads as it did. -/
def jobApartUptoRow : OpenClaim := { program := "ytfmlkhppcepeiaadoor", sum := "2e22a8f1fb5f29f9e61445b6e1446a53647aa733aa016f256e816ef126f7074d", func := "tallage/talkeep.JobApart", spec := "jobApart", inPlace := ["internal/bytealg.IndexByteString", "internal/bytealg.IndexString"], unfollowed := true, recurses := true, named := ["internal/bytealg.MaxLen", "tallage/cal.lengths"], apart := false, laid := [("tallage/cal.lengths", laid_tallage_cal_lengths)], narrowed := true }
def JobApartUptoSaid : Prop := jobApartUptoRow.holds Tryd.pinned (OpenSpec.upto jobApartSpec)

/-- 'talkeep.JobAll', WHERE WHAT IT READS IS OF BULK AT MOST 1048576: true; the input reads as it did. -/
def jobAllUptoRow : OpenClaim := { program := "ytfmlkhppcepeiaadoor", sum := "2e22a8f1fb5f29f9e61445b6e1446a53647aa733aa016f256e816ef126f7074d", func := "tallage/talkeep.JobAll", spec := "jobAll", inPlace := ["internal/bytealg.IndexByteString", "internal/bytealg.IndexString"], unfollowed := true, recurses := true, named := ["internal/bytealg.MaxLen", "tallage/cal.lengths"], apart := false, laid := [("tallage/cal.lengths", laid_tallage_cal_lengths)], narrowed := true }
def JobAllUptoSaid : Prop := jobAllUptoRow.holds Tryd.pinned (OpenSpec.upto jobAllSpec)

/-- 'talkeep.JobTwice', WHERE WHAT IT READS IS OF BULK AT MOST 1048576: true; the input reads as it did. -/
def jobTwiceUptoRow : OpenClaim := { program := "ytfmlkhppcepeiaadoor", sum := "2e22a8f1fb5f29f9e61445b6e1446a53647aa733aa016f256e816ef126f7074d", func := "tallage/talkeep.JobTwice", spec := "jobTwice", inPlace := ["internal/bytealg.abigen_runtime_cmpstring", "internal/bytealg.IndexByteString", "internal/bytealg.IndexString", "slices.overlaps[tallage/api.Entry]"], unfollowed := true, recurses := true, named := ["internal/bytealg.MaxLen", "tallage/cal.lengths"], apart := false, laid := [("tallage/cal.lengths", laid_tallage_cal_lengths)], narrowed := true }
def JobTwiceUptoSaid : Prop := jobTwiceUptoRow.holds Tryd.pinned (OpenSpec.upto jobTwiceSpec)

end Rows
end Go.Proofs.YtfmlkhppcepeiaaDoor
