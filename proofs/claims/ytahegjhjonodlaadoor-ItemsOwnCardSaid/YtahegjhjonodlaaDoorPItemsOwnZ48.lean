/- talkeep.ItemsOwn: for every input the call returns true and each argument reads behind the call as it read before. No condition.
   The frame of the claim; the walk lies in YtahegjhjonodlaaDoorWItemsOwn. -/
import Derived.Test.YtahegjhjonodlaaDoorPItemsOwnZ1
import Derived.Test.YtahegjhjonodlaaDoorPItemsOwnZ2
import Derived.Test.YtahegjhjonodlaaDoorPItemsOwnZ3
import Derived.Test.YtahegjhjonodlaaDoorPItemsOwnZ4
import Derived.Test.YtahegjhjonodlaaDoorPItemsOwnZ5
import Derived.Test.YtahegjhjonodlaaDoorPItemsOwnZ6
import Derived.Test.YtahegjhjonodlaaDoorPItemsOwnZ7
import Derived.Test.YtahegjhjonodlaaDoorPItemsOwnZ8
import Derived.Test.YtahegjhjonodlaaDoorPItemsOwnZ9
import Derived.Test.YtahegjhjonodlaaDoorPItemsOwnZ10
import Derived.Test.YtahegjhjonodlaaDoorPItemsOwnZ11
import Derived.Test.YtahegjhjonodlaaDoorPItemsOwnZ12
import Derived.Test.YtahegjhjonodlaaDoorPItemsOwnZ13
import Derived.Test.YtahegjhjonodlaaDoorPItemsOwnZ14
import Derived.Test.YtahegjhjonodlaaDoorPItemsOwnZ15
import Derived.Test.YtahegjhjonodlaaDoorPItemsOwnZ16
import Derived.Test.YtahegjhjonodlaaDoorPItemsOwnZ17
import Derived.Test.YtahegjhjonodlaaDoorPItemsOwnZ18
import Derived.Test.YtahegjhjonodlaaDoorPItemsOwnZ19
import Derived.Test.YtahegjhjonodlaaDoorPItemsOwnZ20
import Derived.Test.YtahegjhjonodlaaDoorPItemsOwnZ21
import Derived.Test.YtahegjhjonodlaaDoorPItemsOwnZ22
import Derived.Test.YtahegjhjonodlaaDoorPItemsOwnZ23
import Derived.Test.YtahegjhjonodlaaDoorPItemsOwnZ24
import Derived.Test.YtahegjhjonodlaaDoorPItemsOwnZ25
import Derived.Test.YtahegjhjonodlaaDoorPItemsOwnZ26
import Derived.Test.YtahegjhjonodlaaDoorPItemsOwnZ27
import Derived.Test.YtahegjhjonodlaaDoorPItemsOwnZ28
import Derived.Test.YtahegjhjonodlaaDoorPItemsOwnZ29
import Derived.Test.YtahegjhjonodlaaDoorPItemsOwnZ30
import Derived.Test.YtahegjhjonodlaaDoorPItemsOwnZ31
import Derived.Test.YtahegjhjonodlaaDoorPItemsOwnZ32
import Derived.Test.YtahegjhjonodlaaDoorPItemsOwnZ33
import Derived.Test.YtahegjhjonodlaaDoorPItemsOwnZ34
import Derived.Test.YtahegjhjonodlaaDoorPItemsOwnZ35
import Derived.Test.YtahegjhjonodlaaDoorPItemsOwnZ36
import Derived.Test.YtahegjhjonodlaaDoorPItemsOwnZ37
import Derived.Test.YtahegjhjonodlaaDoorPItemsOwnZ38
import Derived.Test.YtahegjhjonodlaaDoorPItemsOwnZ39
import Derived.Test.YtahegjhjonodlaaDoorPItemsOwnZ40
import Derived.Test.YtahegjhjonodlaaDoorPItemsOwnZ41
import Derived.Test.YtahegjhjonodlaaDoorPItemsOwnZ42
import Derived.Test.YtahegjhjonodlaaDoorPItemsOwnZ43
import Derived.Test.YtahegjhjonodlaaDoorPItemsOwnZ44
import Derived.Test.YtahegjhjonodlaaDoorPItemsOwnZ45
import Derived.Test.YtahegjhjonodlaaDoorPItemsOwnZ46
import Derived.Test.YtahegjhjonodlaaDoorPItemsOwnZ47
import Derived.Test.YtahegjhjonodlaaDoorCards
import Derived.Test.YtahegjhjonodlaaDoorRows
import Derived.Test.YtahegjhjonodlaaDoorTie
import Derived.ArgAppend
import Derived.Below
import Derived.BigQuiet
import Derived.BigRegion
import Derived.ChangeArms
import Derived.ChangeOld
import Derived.DataElems
import Derived.Deep.AppendSrc
import Derived.Deep.DeepAppendRoom
import Derived.Deep.DeepCutAuto
import Derived.Deep.DeepHandedRow
import Derived.Deep.LoopGhost
import Derived.Deep.OwnRows
import Derived.Deep.QuietTactic
import Derived.Deep.RegionHeld3
import Derived.Deep.RegionLaw
import Derived.Deep.RegionWith
import Derived.Deep.SlicePairs
import Derived.Deep.Slices
import Derived.Deep.Strs
import Derived.Handy
import Derived.Laws.AppendOwn
import Derived.Laws.Bits64b
import Derived.Laws.BytesArg
import Derived.Laws.CopyOwn
import Derived.Laws.Cover1
import Derived.Laws.IdiomCopy
import Derived.Laws.StandIn
import Derived.Lib.Bytealg
import Derived.Lib.Hide
import Derived.Lib.LaidTab
import Derived.Lib.SliceRun
import Derived.Lib.SmallJoins
import Derived.Lib.Walk
import Derived.OpenShut
import Derived.Outline
import Derived.OwnWalk
import Derived.PlainAid
import Derived.ProofKit
import Derived.RegionTactic
import Derived.Shelf.Abstract
import Derived.ShutString
import Derived.SizedLaws
import Derived.Sort.Walk0
import Derived.WalkKit
import Derived.WalkSpells
namespace Go.Proofs.YtahegjhjonodlaaDoor.itemsOwn
open Go.ChangeShapes Go.WideShapes Go.ChangeAt Go.RowKit Go.Joins
open Go.ChangeMaps (open_string shut_string)
set_option linter.unusedVariables false
set_option maxRecDepth 100000

theorem own : ownKnob Tryd.prog.godebug = none := by kernel_rfl
theorem laidOut : laidOutB Tryd.prog = true := by kernel_rfl

theorem gTab : Tryd.prog.globalNamed "tallage/cal.lengths" = some 0 := by kernel_rfl
theorem gTabType : (Tryd.prog.globals[0]?).map (·.type) = some 143 := by kernel_rfl
theorem cellsT : Tryd.prog.cellsOf 143 = 13 := by kernel_rfl
theorem cellsI : Tryd.prog.cellsOf 3 = 1 := by kernel_rfl
/-- what the row's list gives: the table of lengths -/
theorem table {W : World} (h : laidMetH Tryd.prog Rows.itemsOwnRow.laid W) : Lib.TabIs Tryd.prog W "tallage/cal.lengths" .i64 mtab :=
  Lib.tabIs_of_head (rest := []) gTab gTabType Tryd.underlying143 Tryd.underlying3 cellsI cellsT h
theorem tab {W : World} (h : laidMetH Tryd.prog Rows.itemsOwnRow.laid W) : Tab W :=
  have hc := fun (i : Nat) (hi : i < 13) => (table h).cell gTab i hi
  ⟨World.block_lt_of_cell? _ _ (hc 0 (by decide)), hc⟩

theorem contract (H : Type) (enc : TypeId × Value → H) (W : World) (base : Nat) (args : Array Value) (ds gs : List (DataW H)) (before : List MemPlace)
    (hval0 : ∀ (j : Nat) t v, Tryd.f4.params[j]? = some t → args[j]? = some v → Value.okWide Tryd.prog W .any base t v)
    (hW : DataW.Whole enc Tryd.prog Tryd.f4.params.toList Rows.itemsOwnSpec.vars false W args.toList ds gs before) (hsz0 : (DataW.weightsEach Tryd.prog (Tryd.f4.params.toList ++ (OpenSpec.ofChange Rows.itemsOwnSpec).bare.plain.varTypes Tryd.prog) (ds ++ gs)).all (· ≤ reachBytes) = true) (hL : laidMetH Tryd.prog Rows.itemsOwnRow.laid W) :
    Calls Tryd.prog 4 args W fun e W' => ∃ v, e = .returned v ∧ Rows.itemsOwnSpec.post enc Tryd.prog Tryd.f4 false true false false W args v W' := by
  have hval : ∀ (j : Nat) t v, Tryd.f4.params[j]? = some t → args[j]? = some v → Value.okWide Tryd.prog W .any base t v := hval0
  have hW' := hW
  obtain ⟨p, q, hA0, hV, rfl, hfz, hnd⟩ := hW
  have hA : DataW.TrodAll enc Tryd.prog W 0 (fun _ => true) true Tryd.f4.params.toList args.toList ds p := hA0
  have hsz : (DataW.weightsEach Tryd.prog (Tryd.f4.params.toList ++ Rows.itemsOwnSpec.plain.varTypes Tryd.prog) (ds ++ gs)).all (· ≤ reachBytes) = true := hsz0
  clear hsz0
  rw [Tryd.params4] at hA hval hsz
  obtain ⟨v0, vs0, d0, ds0, p0, q0, hargs, rfl, rfl, h0, r0⟩ := trodAll_cons hA
  obtain ⟨v1, vs1, d1, ds1, p1, q1, rfl, rfl, rfl, h1, r1⟩ := trodAll_cons r0
  obtain ⟨v2, vs2, d2, ds2, p2, q2, rfl, rfl, rfl, h2, r2⟩ := trodAll_cons r1
  obtain ⟨v3, vs3, d3, ds3, p3, q3, rfl, rfl, rfl, h3, r3⟩ := trodAll_cons r2
  obtain ⟨v4, vs4, d4, ds4, p4, q4, rfl, rfl, rfl, h4, r4⟩ := trodAll_cons r3
  obtain ⟨rfl, rfl, rfl⟩ := trodAll_nil r4
  obtain rfl : args = #[v0, v1, v2, v3, v4] := by cases args; simp_all
  obtain ⟨rfl, rfl⟩ := trodVars_none hV
  obtain ⟨a0', len0', cap0', rfl⟩ := okWide_slice Tryd.underlying47 (hval 0 47 v0 rfl rfl)
  have k0 := h0
  have lt0 : ∀ x ∈ p0, x.block < W.heap.size := by obtain ⟨m, hm⟩ := k0; exact DataW.trod_lt m _ _ _ hm
  obtain ⟨a0, len0, cap0, z0, e0, w0⟩ : ∃ a len cap zs, Value.slice a0' len0' cap0' = .slice a len cap ∧ IsPr W a len cap zs := by
    obtain ⟨fuel, hf⟩ := h0
    have hf2 : DataW.trod enc Tryd.prog W 0 (fun _ => true) true fuel 47 [.slice a0' len0' cap0'] = some (d0, p0) := by simpa [Value.cells] using hf
    exact open_pr Tryd.underlying47 Tryd.underlying55 (by kernel_rfl) rfl rfl (by kernel_rfl) (by kernel_rfl) Tryd.underlying3 Tryd.underlying3 hf2
  obtain ⟨rfl, rfl, rfl⟩ : a0 = a0' ∧ len0 = len0' ∧ cap0 = cap0' := by injection e0 with h1 h2 h3; exact ⟨h1.symm, h2.symm, h3.symm⟩
  have rch0 : len0 * 16 ≤ 140737488351232 := len_reach hsz 0 rfl rfl Tryd.underlying47 16 (by kernel_rfl) (by obtain ⟨m, hm⟩ := k0; exact ⟨m, by simpa [Value.cells] using hm⟩)
  obtain ⟨a1', len1', cap1', rfl⟩ := okWide_slice Tryd.underlying48 (hval 1 48 v1 rfl rfl)
  have k1 := h1
  have lt1 : ∀ x ∈ p1, x.block < W.heap.size := by obtain ⟨m, hm⟩ := k1; exact DataW.trod_lt m _ _ _ hm
  obtain ⟨a1, len1, cap1, z1, e1, w1⟩ : ∃ a len cap zs, Value.slice a1' len1' cap1' = .slice a len cap ∧ IsPr W a len cap zs := by
    obtain ⟨fuel, hf⟩ := h1
    have hf2 : DataW.trod enc Tryd.prog W 0 (fun _ => true) true fuel 48 [.slice a1' len1' cap1'] = some (d1, p1) := by simpa [Value.cells] using hf
    exact open_pr Tryd.underlying48 Tryd.underlying52 (by kernel_rfl) rfl rfl (by kernel_rfl) (by kernel_rfl) Tryd.underlying3 Tryd.underlying3 hf2
  obtain ⟨rfl, rfl, rfl⟩ : a1 = a1' ∧ len1 = len1' ∧ cap1 = cap1' := by injection e1 with h1 h2 h3; exact ⟨h1.symm, h2.symm, h3.symm⟩
  have rch1 : len1 * 16 ≤ 140737488351232 := len_reach hsz 1 rfl rfl Tryd.underlying48 16 (by kernel_rfl) (by obtain ⟨m, hm⟩ := k1; exact ⟨m, by simpa [Value.cells] using hm⟩)
  obtain ⟨a2', len2', cap2', rfl⟩ := okWide_slice Tryd.underlying48 (hval 2 48 v2 rfl rfl)
  have k2 := h2
  have lt2 : ∀ x ∈ p2, x.block < W.heap.size := by obtain ⟨m, hm⟩ := k2; exact DataW.trod_lt m _ _ _ hm
  obtain ⟨a2, len2, cap2, z2, e2, w2⟩ : ∃ a len cap zs, Value.slice a2' len2' cap2' = .slice a len cap ∧ IsPr W a len cap zs := by
    obtain ⟨fuel, hf⟩ := h2
    have hf2 : DataW.trod enc Tryd.prog W 0 (fun _ => true) true fuel 48 [.slice a2' len2' cap2'] = some (d2, p2) := by simpa [Value.cells] using hf
    exact open_pr Tryd.underlying48 Tryd.underlying52 (by kernel_rfl) rfl rfl (by kernel_rfl) (by kernel_rfl) Tryd.underlying3 Tryd.underlying3 hf2
  obtain ⟨rfl, rfl, rfl⟩ : a2 = a2' ∧ len2 = len2' ∧ cap2 = cap2' := by injection e2 with h1 h2 h3; exact ⟨h1.symm, h2.symm, h3.symm⟩
  have rch2 : len2 * 16 ≤ 140737488351232 := len_reach hsz 2 rfl rfl Tryd.underlying48 16 (by kernel_rfl) (by obtain ⟨m, hm⟩ := k2; exact ⟨m, by simpa [Value.cells] using hm⟩)
  obtain ⟨a3', len3', cap3', rfl⟩ := okWide_slice Tryd.underlying49 (hval 3 49 v3 rfl rfl)
  have k3 := h3
  have lt3 : ∀ x ∈ p3, x.block < W.heap.size := by obtain ⟨m, hm⟩ := k3; exact DataW.trod_lt m _ _ _ hm
  obtain ⟨a3, len3, cap3, z3, e3, w3⟩ : ∃ a len cap zs, Value.slice a3' len3' cap3' = .slice a len cap ∧ Ps W a zs ∧ zs.length = len ∧ len ≤ cap ∧ cap ≤ maxLen ∧ (a = none → len = 0) := by
    obtain ⟨fuel, hf⟩ := h3
    have hf2 : DataW.trod enc Tryd.prog W 0 (fun _ => true) true fuel 49 [.slice a3' len3' cap3'] = some (d3, p3) := by simpa [Value.cells] using hf
    exact open_pl hf2
  obtain ⟨rfl, rfl, rfl⟩ : a3 = a3' ∧ len3 = len3' ∧ cap3 = cap3' := by injection e3 with h1 h2 h3; exact ⟨h1.symm, h2.symm, h3.symm⟩
  have rch3 : len3 * 80 ≤ 140737488351232 := len_reach hsz 3 rfl rfl Tryd.underlying49 80 (by kernel_rfl) (by obtain ⟨m, hm⟩ := k3; exact ⟨m, by simpa [Value.cells] using hm⟩)
  obtain ⟨a4, rfl, rfl, rfl, w4⟩ := open_int Tryd.underlying3 (hval 4 3 v4 rfl rfl) h4
  clear hA0 hval0
  refine (itemsOwn_walk W (tab hL) a0 len0 cap0 z0 w0 rch0 a1 len1 cap1 z1 w1 rch1 a2 len2 cap2 z2 w2 rch2 a3 len3 cap3 z3 w3 rch3 a4 w4).mono fun e W' ⟨he, bel⟩ => ?_
  subst he
  exact ⟨_, rfl, _, _, _, [], _, [], hW', trodAll_mk1 (shut_bool Tryd.underlying4 _), (trodAll_cons_mk (Below.trod laidOut (by kernel_rfl) (of_decide_eq_true (by kernel_rfl)) k0 bel lt0) (trodAll_cons_mk (Below.trod laidOut (by kernel_rfl) (of_decide_eq_true (by kernel_rfl)) k1 bel lt1) (trodAll_cons_mk (Below.trod laidOut (by kernel_rfl) (of_decide_eq_true (by kernel_rfl)) k2 bel lt2) (trodAll_cons_mk (Below.trod laidOut (by kernel_rfl) (of_decide_eq_true (by kernel_rfl)) k3 bel lt3) (trodAll_cons_mk (shut_int Tryd.underlying3 w4) trodAll_mk0))))), rfl, bel.frame _, fun h => by cases h⟩

/-- a world for the witness: the settled one, the table holding what its initialiser lays -/
noncomputable def laidWorld (os : Os) : World :=
  { World.holding Tryd.prog os ⟨#[], #[], []⟩ with heap := (World.holding Tryd.prog os ⟨#[], #[], []⟩).heap.modify 0 fun
      | .cells _ t frozen => .cells #[.int .i64 0, .int .i64 31, .int .i64 28, .int .i64 31, .int .i64 30, .int .i64 31, .int .i64 30, .int .i64 31, .int .i64 31, .int .i64 30, .int .i64 31, .int .i64 30, .int .i64 31] t frozen
      | o => o }
theorem laid_met (os : Os) : laidMet Tryd.prog Rows.itemsOwnRow.laid ((laidWorld os).forCall (fun _ _ => 0) ⟨#[], #[.slice none 0 0, .slice none 0 0, .slice none 0 0, .slice none 0 0, .int .i64 0], []⟩).memory :=
  laidMet_of_run' 8 (by kernel_rfl) (by kernel_rfl)
theorem reads (os : Os) {H : Type} (enc : TypeId × Value → H) : ∃ places, DataW.whole enc Tryd.prog ((laidWorld os).forCall (fun _ _ => 0) ⟨#[], #[.slice none 0 0, .slice none 0 0, .slice none 0 0, .slice none 0 0, .int .i64 0], []⟩).memory Tryd.f4.params.toList Rows.itemsOwnSpec.vars false (#[.slice none 0 0, .slice none 0 0, .slice none 0 0, .slice none 0 0, .int .i64 0] : Array Value).toList 8 = some ([.nil, .nil, .nil, .nil, .lit (.int .i64 0)], [], places) :=
  ⟨[], by kernel_rfl⟩

set_option maxRecDepth 100000 in
theorem lifted (os : Os) (started : os.Started) (H : Type) (enc : TypeId × Value → H) (F : Stop.Interp) :
    ReturnsInHanded {} Tryd.checked os 4 .any ((OpenSpec.ofChange Rows.itemsOwnSpec).preRow enc Tryd.prog Tryd.f4 Rows.itemsOwnRow.domain false Rows.itemsOwnRow.laid) (((OpenSpec.ofChange Rows.itemsOwnSpec).at F).post enc Tryd.prog Tryd.f4 false true false false) := by
  obtain ⟨places, hx⟩ := reads os enc
  refine returnsInHanded_of_row (C := Tryd.checked) (s := OpenSpec.ofChange Rows.itemsOwnSpec) own started (by kernel_rfl) Tryd.func4
    (witness_row_at (enc := enc) (C := Tryd.checked) false (laidWorld os) #[.slice none 0 0, .slice none 0 0, .slice none 0 0, .slice none 0 0, .int .i64 0] rfl (by kernel_rfl) (by kernel_rfl) (by kernel_rfl)
      (OpenSpec.preRow_of_cond 8 hx (by kernel_rfl) (fun k hk => by cases hk) (by kernel_rfl) (laid_met os))) ?_
  intro W base args ds gs before hval hW _ _ hsz hL _ _
  exact contract H enc W base args ds gs before hval hW hsz hL

theorem said : Rows.ItemsOwnSaid :=
  OpenClaim.holds_of_cond 4 Tryd.f4 rfl rfl rfl rfl rfl rfl rfl ⟨rfl, rfl, rfl, rfl, rfl⟩ rfl rfl rfl rfl rfl (by kernel_rfl) Tryd.func4 (by kernel_rfl)
    (of_decide_eq_true (by kernel_rfl)) (by unfold Func.isWrapper; first | (rw [if_pos (by decide +kernel)]; kernel_rfl) | (rw [if_neg (by decide +kernel)]; exact ⟨rfl, rfl⟩))
    (fun os started H enc _ F => by rw [OpenClaim.pre_eq_preRow]; exact lifted os started H enc F)

/-- no parameter wants a stand-in; the program's own looks are off -/
theorem plain (f : FuncId) (fn : Func) (hf : Tryd.pinned.checked.prog.funcNamed "tallage/talkeep.ItemsOwn" = some f) (hfn : Tryd.pinned.checked.prog.funcs[f]? = some fn) :
    false = Tryd.pinned.checked.prog.looks [] ∧ ∀ (j : Nat) t, fn.params[j]? = some t → Tryd.pinned.checked.prog.wantsStandIn t = false := by
  obtain rfl : f = 4 := Option.some.inj ((show Tryd.prog.funcNamed "tallage/talkeep.ItemsOwn" = some 4 by kernel_rfl).symm.trans hf) |>.symm
  obtain rfl : fn = Tryd.f4 := (Option.some.inj (Tryd.func4.symm.trans hfn)).symm
  refine ⟨by kernel_rfl, fun j t ht => ?_⟩
  rw [Tryd.params4] at ht
  have hm : t ∈ [47, 48, 48, 49, 3] := by simpa using Array.mem_of_getElem? ht
  have hall : ([47, 48, 48, 49, 3].all fun u => !Tryd.prog.wantsStandIn u) = true := by kernel_rfl
  exact (show Tryd.prog.wantsStandIn t = false by simpa using List.all_eq_true.1 hall t hm)

/-- the card -/
theorem proved : Rows.ItemsOwnCardSaid :=
  Claim7.holds_tied_plain_at .later [] _ _ _ _ said (fun _ h => by cases h) (by kernel_rfl) (fun _ h => by cases h) itemsOwn_row_tie rfl ⟨rfl, rfl⟩ (by kernel_rfl) rfl plain (by kernel_rfl)
#print axioms proved
end Go.Proofs.YtahegjhjonodlaaDoor.itemsOwn
