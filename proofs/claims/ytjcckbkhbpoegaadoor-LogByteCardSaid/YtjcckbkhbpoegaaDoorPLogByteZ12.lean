/- Lines: the walks of slices.Clone and slices.Equal at lines, talkeep.sale. -/
import Derived.Test.YtjcckbkhbpoegaaDoorPLogByteZ1
import Derived.Test.YtjcckbkhbpoegaaDoorPLogByteZ2
import Derived.Test.YtjcckbkhbpoegaaDoorPLogByteZ3
import Derived.Test.YtjcckbkhbpoegaaDoorPLogByteZ4
import Derived.Test.YtjcckbkhbpoegaaDoorPLogByteZ11
import Derived.Test.YtjcckbkhbpoegaaDoorRows
import Derived.BigQuiet
import Derived.DataElems
import Derived.Deep.LoopGhost
import Derived.Deep.QuietTactic
import Derived.Handy
import Derived.Lib.Hide
import Derived.Lib.SliceRun
import Derived.Lib.Walk
import Derived.OpenShut
import Derived.Outline
import Derived.OwnWalk
import Derived.PlainAid
import Derived.ProofKit
import Derived.RegionTactic
import Derived.Shelf.Abstract
import Derived.WalkKit
import Derived.WalkSpells
namespace Go.Proofs.YtjcckbkhbpoegaaDoor
open Go.ChangeShapes Go.WideShapes Go.ChangeAt Go.RowKit Go.PlainAid
set_option linter.unusedVariables false

/-- the two cells of a pair -/
def pc (x : Ln) : List Value := [.string x.1, .int .i64 x.2]
theorem pc_len (x : Ln) : (pc x).length = 2 := rfl
theorem adds (b o i : Nat) : (⟨b, o, none⟩ : Addr).add i = ⟨b, o + i, none⟩ := by
  unfold Addr.add; split
  · subst_vars; rfl
  · rfl
theorem cd_get (xs : List Ln) (i : Nat) (h : i < xs.length) : cd xs i = xs[i].1 ∧ am xs i = xs[i].2 := by
  unfold cd am; rw [List.getD_eq_getElem?_getD, List.getElem?_eq_getElem h]; exact ⟨rfl, rfl⟩
theorem Si.of_rd {w : World} {A : Option Addr} {xs : List Ln} (h : Rd w A (flat pc xs)) : Si w A xs := by
  by_cases h0 : xs = []
  · exact .inl h0
  · have hl : 0 < xs.length := List.length_pos_iff.2 h0
    obtain ⟨b, o, hA, hb, _⟩ := Rd.field 2 pc_len h 0 hl (by omega)
    refine .inr ⟨⟨b, o, none⟩, hA, hb, fun i hi => ?_⟩
    obtain ⟨b', o', hA', _, hc⟩ := Rd.field 2 pc_len h i hi (by omega)
    rw [hA] at hA'
    injection hA' with hA'
    injection hA' with h1 h2
    subst h1 h2
    obtain ⟨e1, e2⟩ := cd_get xs i hi
    have c0 := hc 0 (by omega)
    have c1 := hc 1 (by omega)
    rw [adds, e1, e2]
    exact ⟨by simpa [pc] using c0, by simpa [pc] using c1⟩
theorem info_line : (Tryd.prog.info? 52).map (fun i => (i.zero, i.size, i.bytes)) = some (some (.agg #[.string { data := #[] }, .int .i64 0]), 2, 24) := by kernel_rfl

@[go_sem] theorem eql_nil_ln (w : World) (a : Option Addr) (n c : Nat) : (binOp .eql 23 (.slice a n c) (.slice none 0 0)).run Tryd.prog w = .ok (.bool a.isNone) w :=
  Lib.run_eql_slice_nil w _ 52 a n c 0 0 Tryd.underlying23

abbrev s10 : ByteArray := { data := #[49, 48] }
abbrev s40 : ByteArray := { data := #[52, 48] }
set_option maxHeartbeats 400000 in
theorem sale_any (key : ByteArray) (at' n : Int) (w : World) (h1 : -1000000000000 ≤ n) (h2 : n ≤ 1000000000000) :
    Calls Tryd.prog 11 #[.string key, .int .i64 at', .int .i64 n] w fun e w' => ∃ g, e = .returned (.agg #[.string key, .int .i64 at', .slice (some ⟨g, 0, none⟩) 2 2]) ∧ Si w' (some ⟨g, 0, none⟩) [(s10, n), (s40, -n)] ∧ Mor w w' := by
  go_enter Tryd.func11, Tryd.ntmps11
  go_wp2
  go_returns
  refine ⟨_, rfl, ?_, by repeat (first | exact Mor.refl _ | apply Mor.alloc | apply Mor.more | apply Mor.drewN | apply Mor.drew)⟩
  refine Si.of_rd (Rd.new (flat pc [(s10, n), (s40, -n)]) ?_ ?_)
  · simp [go_sem]
  · simp [flat, pc]

end Go.Proofs.YtjcckbkhbpoegaaDoor
