/- talkeep.JobAll: for every input the call returns true and each argument reads behind the call as it read before. No condition.
   The frame of the claim; the walk lies in YtfmlkhppcepeiaaDoorWJobAll. -/
import Derived.Test.YtfmlkhppcepeiaaDoorPJobAllZ1
import Derived.Test.YtfmlkhppcepeiaaDoorPJobAllZ2
import Derived.Test.YtfmlkhppcepeiaaDoorPJobAllZ3
import Derived.Test.YtfmlkhppcepeiaaDoorPJobAllZ4
import Derived.Test.YtfmlkhppcepeiaaDoorPJobAllZ5
import Derived.Test.YtfmlkhppcepeiaaDoorPJobAllZ6
import Derived.Test.YtfmlkhppcepeiaaDoorPJobAllZ7
import Derived.Test.YtfmlkhppcepeiaaDoorPJobAllZ8
import Derived.Test.YtfmlkhppcepeiaaDoorPJobAllZ9
import Derived.Test.YtfmlkhppcepeiaaDoorPJobAllZ10
import Derived.Test.YtfmlkhppcepeiaaDoorPJobAllZ11
import Derived.Test.YtfmlkhppcepeiaaDoorPJobAllZ12
import Derived.Test.YtfmlkhppcepeiaaDoorPJobAllZ13
import Derived.Test.YtfmlkhppcepeiaaDoorPJobAllZ14
import Derived.Test.YtfmlkhppcepeiaaDoorPJobAllZ15
import Derived.Test.YtfmlkhppcepeiaaDoorPJobAllZ16
import Derived.Test.YtfmlkhppcepeiaaDoorPJobAllZ17
import Derived.Test.YtfmlkhppcepeiaaDoorPJobAllZ18
import Derived.Test.YtfmlkhppcepeiaaDoorPJobAllZ19
import Derived.Test.YtfmlkhppcepeiaaDoorPJobAllZ20
import Derived.Test.YtfmlkhppcepeiaaDoorPJobAllZ21
import Derived.Test.YtfmlkhppcepeiaaDoorPJobAllZ22
import Derived.Test.YtfmlkhppcepeiaaDoorPJobAllZ23
import Derived.Test.YtfmlkhppcepeiaaDoorPJobAllZ24
import Derived.Test.YtfmlkhppcepeiaaDoorPJobAllZ25
import Derived.Test.YtfmlkhppcepeiaaDoorPJobAllZ26
import Derived.Test.YtfmlkhppcepeiaaDoorPJobAllZ27
import Derived.Test.YtfmlkhppcepeiaaDoorPJobAllZ28
import Derived.Test.YtfmlkhppcepeiaaDoorPJobAllZ29
import Derived.Test.YtfmlkhppcepeiaaDoorCards
import Derived.Test.YtfmlkhppcepeiaaDoorRows
import Derived.Test.YtfmlkhppcepeiaaDoorTie
import Derived.Below
import Derived.BigQuiet
import Derived.BigRegion
import Derived.Carry
import Derived.ChangeOld
import Derived.DataElems
import Derived.Deep.DeepCutAuto
import Derived.Deep.DeepHandedRow
import Derived.Deep.LoopGhost
import Derived.Deep.OwnRows
import Derived.Deep.QuietTactic
import Derived.Deep.RegionHeld3
import Derived.Deep.RegionLaw
import Derived.Deep.RegionWith
import Derived.Deep.SlicePairs
import Derived.Deep.Slices
import Derived.Deep.Strs
import Derived.Handy
import Derived.IntWalk
import Derived.Laws.AppendOwn
import Derived.Laws.BytesArg
import Derived.Laws.CopyOwn
import Derived.Laws.CopyRow
import Derived.Laws.Cover1
import Derived.Laws.Externs
import Derived.Laws.NewBlocks
import Derived.Laws.OwnMore
import Derived.Laws.StandIn
import Derived.Lib.AppendZerosOnto
import Derived.Lib.Bytealg
import Derived.Lib.Hide
import Derived.Lib.LaidTab
import Derived.Lib.Overlaps
import Derived.Lib.SliceRun
import Derived.Lib.SmallJoins
import Derived.Lib.Walk
import Derived.Maps.Own
import Derived.Maps.OwnSet
import Derived.Maps.Views
import Derived.OpenShut
import Derived.Outline
import Derived.OwnWalk
import Derived.PlainAid
import Derived.ProofKit
import Derived.RegionTactic
import Derived.Shelf.Abstract
import Derived.Shelf.RegionOpenPlain
import Derived.ShutString
import Derived.Sort.Walk0
import Derived.StringKeys
import Derived.WalkKit
import Derived.WalkSpells
namespace Go.Proofs.YtfmlkhppcepeiaaDoor.jobAll
open Go.ChangeShapes Go.WideShapes Go.ChangeAt Go.RowKit Go.Joins
open Go.ChangeMaps (open_string shut_string)
set_option linter.unusedVariables false
set_option maxRecDepth 100000

theorem own : ownKnob Tryd.prog.godebug = none := by kernel_rfl
theorem laidOut : laidOutB Tryd.prog = true := by kernel_rfl

theorem gTab : Tryd.prog.globalNamed "tallage/cal.lengths" = some 0 := by kernel_rfl
theorem gTabType : (Tryd.prog.globals[0]?).map (·.type) = some 98 := by kernel_rfl
theorem cellsT : Tryd.prog.cellsOf 98 = 13 := by kernel_rfl
theorem cellsI : Tryd.prog.cellsOf 3 = 1 := by kernel_rfl
/-- what the row's list gives: the table of lengths -/
theorem table {W : World} (h : laidMetH Tryd.prog Rows.jobAllRow.laid W) : Lib.TabIs Tryd.prog W "tallage/cal.lengths" .i64 mtab :=
  Lib.tabIs_of_head (rest := []) gTab gTabType Tryd.underlying98 Tryd.underlying3 cellsI cellsT h
theorem tab {W : World} (h : laidMetH Tryd.prog Rows.jobAllRow.laid W) : Tab W :=
  have hc := fun (i : Nat) (hi : i < 13) => (table h).cell gTab i hi
  ⟨World.block_lt_of_cell? _ _ (hc 0 (by decide)), hc⟩

theorem contract (H : Type) (enc : TypeId × Value → H) (W : World) (base : Nat) (args : Array Value) (ds gs : List (DataW H)) (before : List MemPlace)
    (hval0 : ∀ (j : Nat) t v, Tryd.f5.params[j]? = some t → args[j]? = some v → Value.okWide Tryd.prog W .any base t v)
    (hW : DataW.Whole enc Tryd.prog Tryd.f5.params.toList Rows.jobAllSpec.vars false W args.toList ds gs before) (hL : laidMetH Tryd.prog Rows.jobAllRow.laid W) :
    Calls Tryd.prog 5 args W fun e W' => ∃ v, e = .returned v ∧ Rows.jobAllSpec.post enc Tryd.prog Tryd.f5 false true false false W args v W' := by
  have hval : ∀ (j : Nat) t v, Tryd.f5.params[j]? = some t → args[j]? = some v → Value.okWide Tryd.prog W .any base t v := hval0
  have hW' := hW
  obtain ⟨p, q, hA0, hV, rfl, hfz, hnd⟩ := hW
  have hA : DataW.TrodAll enc Tryd.prog W 0 (fun _ => true) true Tryd.f5.params.toList args.toList ds p := hA0
  rw [Tryd.params5] at hA hval
  obtain ⟨v0, vs0, d0, ds0, p0, q0, hargs, rfl, rfl, h0, r0⟩ := trodAll_cons hA
  obtain ⟨v1, vs1, d1, ds1, p1, q1, rfl, rfl, rfl, h1, r1⟩ := trodAll_cons r0
  obtain ⟨rfl, rfl, rfl⟩ := trodAll_nil r1
  obtain rfl : args = #[v0, v1] := by cases args; simp_all
  obtain ⟨rfl, rfl⟩ := trodVars_none hV
  obtain ⟨a0', len0', cap0', rfl⟩ := okWide_slice Tryd.underlying22 (hval 0 22 v0 rfl rfl)
  have k0 := h0
  have lt0 : ∀ x ∈ p0, x.block < W.heap.size := by obtain ⟨m, hm⟩ := k0; exact DataW.trod_lt m _ _ _ hm
  obtain ⟨a0, len0, cap0, z0, e0, w0⟩ : ∃ a len cap zs, Value.slice a0' len0' cap0' = .slice a len cap ∧ Ps W a zs ∧ zs.length = len ∧ len ≤ cap ∧ cap ≤ maxLen ∧ (a = none → len = 0) := by
    obtain ⟨fuel, hf⟩ := h0
    have hf2 : DataW.trod enc Tryd.prog W 0 (fun _ => true) true fuel 22 [.slice a0' len0' cap0'] = some (d0, p0) := by simpa [Value.cells] using hf
    exact open_pl hf2
  obtain ⟨rfl, rfl, rfl⟩ : a0 = a0' ∧ len0 = len0' ∧ cap0 = cap0' := by injection e0 with h1 h2 h3; exact ⟨h1.symm, h2.symm, h3.symm⟩
  obtain ⟨a1, rfl, rfl, rfl, w1⟩ := open_int Tryd.underlying3 (hval 1 3 v1 rfl rfl) h1
  clear hA0 hval0
  refine (jobAll_walk W (tab hL) a0 len0 cap0 z0 w0 a1 w1).mono fun e W' ⟨he, bel⟩ => ?_
  subst he
  exact ⟨_, rfl, _, _, _, [], _, [], hW', trodAll_mk1 (shut_bool Tryd.underlying4 _), (trodAll_cons_mk (Below.trod laidOut (by kernel_rfl) (of_decide_eq_true (by kernel_rfl)) k0 bel lt0) (trodAll_cons_mk (shut_int Tryd.underlying3 w1) trodAll_mk0)), rfl, bel.frame _, fun h => by cases h⟩

/-- a world for the witness: the settled one, the table holding what its initialiser lays -/
noncomputable def laidWorld (os : Os) : World :=
  { World.holding Tryd.prog os ⟨#[], #[], []⟩ with heap := (World.holding Tryd.prog os ⟨#[], #[], []⟩).heap.modify 0 fun
      | .cells _ t frozen => .cells #[.int .i64 0, .int .i64 31, .int .i64 28, .int .i64 31, .int .i64 30, .int .i64 31, .int .i64 30, .int .i64 31, .int .i64 31, .int .i64 30, .int .i64 31, .int .i64 30, .int .i64 31] t frozen
      | o => o }
theorem laid_met (os : Os) : laidMet Tryd.prog Rows.jobAllRow.laid ((laidWorld os).forCall (fun _ _ => 0) ⟨#[], #[.slice none 0 0, .int .i64 0], []⟩).memory :=
  laidMet_of_run' 8 (by kernel_rfl) (by kernel_rfl)
theorem reads (os : Os) {H : Type} (enc : TypeId × Value → H) : ∃ places, DataW.whole enc Tryd.prog ((laidWorld os).forCall (fun _ _ => 0) ⟨#[], #[.slice none 0 0, .int .i64 0], []⟩).memory Tryd.f5.params.toList Rows.jobAllSpec.vars false (#[.slice none 0 0, .int .i64 0] : Array Value).toList 8 = some ([.nil, .lit (.int .i64 0)], [], places) :=
  ⟨[], by kernel_rfl⟩

set_option maxRecDepth 100000 in
theorem lifted (os : Os) (started : os.Started) (H : Type) (enc : TypeId × Value → H) (F : Stop.Interp) :
    ReturnsInHanded {} Tryd.checked os 5 .any ((OpenSpec.ofChange Rows.jobAllSpec).preRow enc Tryd.prog Tryd.f5 Rows.jobAllRow.domain false Rows.jobAllRow.laid) (((OpenSpec.ofChange Rows.jobAllSpec).at F).post enc Tryd.prog Tryd.f5 false true false false) := by
  obtain ⟨places, hx⟩ := reads os enc
  refine returnsInHanded_of_row (C := Tryd.checked) (s := OpenSpec.ofChange Rows.jobAllSpec) own started (by kernel_rfl) Tryd.func5
    (witness_row_at (enc := enc) (C := Tryd.checked) false (laidWorld os) #[.slice none 0 0, .int .i64 0] rfl (by kernel_rfl) (by kernel_rfl) (by kernel_rfl)
      (OpenSpec.preRow_of_cond 8 hx (by kernel_rfl) (fun k hk => by cases hk) (by kernel_rfl) (laid_met os))) ?_
  intro W base args ds gs before hval hW _ _ _ hL _ _
  exact contract H enc W base args ds gs before hval hW hL

theorem said : Rows.JobAllSaid :=
  OpenClaim.holds_of_cond 5 Tryd.f5 rfl rfl rfl rfl rfl rfl rfl ⟨rfl, rfl, rfl, rfl, rfl⟩ rfl rfl rfl rfl rfl (by kernel_rfl) Tryd.func5 (by kernel_rfl)
    (of_decide_eq_true (by kernel_rfl)) (by unfold Func.isWrapper; first | (rw [if_pos (by decide +kernel)]; kernel_rfl) | (rw [if_neg (by decide +kernel)]; exact ⟨rfl, rfl⟩))
    (fun os started H enc _ F => by rw [OpenClaim.pre_eq_preRow]; exact lifted os started H enc F)

/-- no parameter wants a stand-in; the program's own looks are off -/
theorem plain (f : FuncId) (fn : Func) (hf : Tryd.pinned.checked.prog.funcNamed "tallage/talkeep.JobAll" = some f) (hfn : Tryd.pinned.checked.prog.funcs[f]? = some fn) :
    false = Tryd.pinned.checked.prog.looks [] ∧ ∀ (j : Nat) t, fn.params[j]? = some t → Tryd.pinned.checked.prog.wantsStandIn t = false := by
  obtain rfl : f = 5 := Option.some.inj ((show Tryd.prog.funcNamed "tallage/talkeep.JobAll" = some 5 by kernel_rfl).symm.trans hf) |>.symm
  obtain rfl : fn = Tryd.f5 := (Option.some.inj (Tryd.func5.symm.trans hfn)).symm
  refine ⟨by kernel_rfl, fun j t ht => ?_⟩
  rw [Tryd.params5] at ht
  have hm : t ∈ [22, 3] := by simpa using Array.mem_of_getElem? ht
  have hall : ([22, 3].all fun u => !Tryd.prog.wantsStandIn u) = true := by kernel_rfl
  exact (show Tryd.prog.wantsStandIn t = false by simpa using List.all_eq_true.1 hall t hm)

/-- the card -/
theorem proved : Rows.JobAllCardSaid :=
  Claim7.holds_tied_plain_at .later [] _ _ _ _ said (fun _ h => by cases h) (by kernel_rfl) (fun _ h => by cases h) jobAll_row_tie rfl ⟨rfl, rfl⟩ (by kernel_rfl) rfl plain (by kernel_rfl)
#print axioms proved
end Go.Proofs.YtfmlkhppcepeiaaDoor.jobAll
