/- Lines: the walks of slices.Clone and slices.Equal at lines, talkeep.sale. -/
import Derived.Test.YtahegjhjonodlaaDoorPNumbersOwnZ1
import Derived.Test.YtahegjhjonodlaaDoorPNumbersOwnZ3
import Derived.Test.YtahegjhjonodlaaDoorPNumbersOwnZ11
import Derived.Test.YtahegjhjonodlaaDoorPNumbersOwnZ12
import Derived.Test.YtahegjhjonodlaaDoorRows
import Derived.BigQuiet
import Derived.DataElems
import Derived.Deep.LoopGhost
import Derived.Deep.QuietTactic
import Derived.Handy
import Derived.Lib.Hide
import Derived.Lib.SliceRun
import Derived.Lib.Walk
import Derived.OpenShut
import Derived.Outline
import Derived.OwnWalk
import Derived.PlainAid
import Derived.ProofKit
import Derived.RegionTactic
import Derived.Shelf.Abstract
import Derived.WalkKit
import Derived.WalkSpells
namespace Go.Proofs.YtahegjhjonodlaaDoor
open Go.ChangeShapes Go.WideShapes Go.ChangeAt Go.RowKit Go.PlainAid
set_option linter.unusedVariables false
set_option maxRecDepth 100000

/-- the two cells of a pair -/
def pc (x : Ln) : List Value := [.string x.1, .int .i64 x.2]
theorem pc_len (x : Ln) : (pc x).length = 2 := rfl

theorem cd_get (xs : List Ln) (i : Nat) (h : i < xs.length) : cd xs i = xs[i].1 ∧ am xs i = xs[i].2 := by
  unfold cd am; rw [List.getD_eq_getElem?_getD, List.getElem?_eq_getElem h]; exact ⟨rfl, rfl⟩
theorem Si.of_rd {w : World} {A : Option Addr} {xs : List Ln} (h : Rd w A (flat pc xs)) : Si w A xs := by
  by_cases h0 : xs = []
  · exact .inl h0
  · have hl : 0 < xs.length := List.length_pos_iff.2 h0
    obtain ⟨b, o, hA, hb, _⟩ := Rd.field 2 pc_len h 0 hl (by omega)
    refine .inr ⟨⟨b, o, none⟩, hA, hb, fun i hi => ?_⟩
    obtain ⟨b', o', hA', _, hc⟩ := Rd.field 2 pc_len h i hi (by omega)
    rw [hA] at hA'
    injection hA' with hA'
    injection hA' with h1 h2
    subst h1 h2
    obtain ⟨e1, e2⟩ := cd_get xs i hi
    have c0 := hc 0 (by omega)
    have c1 := hc 1 (by omega)
    rw [adds, e1, e2]
    exact ⟨by simpa [pc] using c0, by simpa [pc] using c1⟩
@[go_sem] theorem eql_nil_ln (w : World) (a : Option Addr) (n c : Nat) : (binOp .eql 82 (.slice a n c) (.slice none 0 0)).run Tryd.prog w = .ok (.bool a.isNone) w :=
  Lib.run_eql_slice_nil w _ 87 a n c 0 0 Tryd.underlying82

end Go.Proofs.YtahegjhjonodlaaDoor
