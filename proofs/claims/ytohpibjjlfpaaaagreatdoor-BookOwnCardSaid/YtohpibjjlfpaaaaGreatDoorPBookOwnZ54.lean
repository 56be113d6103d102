/- talkeep.BookOwn: for every input the call returns true and each argument reads behind the call as it read before. No condition.
   The frame of the claim; the walk lies in YtohpibjjlfpaaaaGreatDoorWBookOwn. -/
import Derived.Test.YtohpibjjlfpaaaaGreatDoorPBookOwnZ1
import Derived.Test.YtohpibjjlfpaaaaGreatDoorPBookOwnZ2
import Derived.Test.YtohpibjjlfpaaaaGreatDoorPBookOwnZ3
import Derived.Test.YtohpibjjlfpaaaaGreatDoorPBookOwnZ4
import Derived.Test.YtohpibjjlfpaaaaGreatDoorPBookOwnZ5
import Derived.Test.YtohpibjjlfpaaaaGreatDoorPBookOwnZ6
import Derived.Test.YtohpibjjlfpaaaaGreatDoorPBookOwnZ7
import Derived.Test.YtohpibjjlfpaaaaGreatDoorPBookOwnZ8
import Derived.Test.YtohpibjjlfpaaaaGreatDoorPBookOwnZ9
import Derived.Test.YtohpibjjlfpaaaaGreatDoorPBookOwnZ10
import Derived.Test.YtohpibjjlfpaaaaGreatDoorPBookOwnZ11
import Derived.Test.YtohpibjjlfpaaaaGreatDoorPBookOwnZ12
import Derived.Test.YtohpibjjlfpaaaaGreatDoorPBookOwnZ13
import Derived.Test.YtohpibjjlfpaaaaGreatDoorPBookOwnZ14
import Derived.Test.YtohpibjjlfpaaaaGreatDoorPBookOwnZ15
import Derived.Test.YtohpibjjlfpaaaaGreatDoorPBookOwnZ16
import Derived.Test.YtohpibjjlfpaaaaGreatDoorPBookOwnZ17
import Derived.Test.YtohpibjjlfpaaaaGreatDoorPBookOwnZ18
import Derived.Test.YtohpibjjlfpaaaaGreatDoorPBookOwnZ19
import Derived.Test.YtohpibjjlfpaaaaGreatDoorPBookOwnZ20
import Derived.Test.YtohpibjjlfpaaaaGreatDoorPBookOwnZ21
import Derived.Test.YtohpibjjlfpaaaaGreatDoorPBookOwnZ22
import Derived.Test.YtohpibjjlfpaaaaGreatDoorPBookOwnZ23
import Derived.Test.YtohpibjjlfpaaaaGreatDoorPBookOwnZ24
import Derived.Test.YtohpibjjlfpaaaaGreatDoorPBookOwnZ25
import Derived.Test.YtohpibjjlfpaaaaGreatDoorPBookOwnZ26
import Derived.Test.YtohpibjjlfpaaaaGreatDoorPBookOwnZ27
import Derived.Test.YtohpibjjlfpaaaaGreatDoorPBookOwnZ28
import Derived.Test.YtohpibjjlfpaaaaGreatDoorPBookOwnZ29
import Derived.Test.YtohpibjjlfpaaaaGreatDoorPBookOwnZ30
import Derived.Test.YtohpibjjlfpaaaaGreatDoorPBookOwnZ31
import Derived.Test.YtohpibjjlfpaaaaGreatDoorPBookOwnZ32
import Derived.Test.YtohpibjjlfpaaaaGreatDoorPBookOwnZ33
import Derived.Test.YtohpibjjlfpaaaaGreatDoorPBookOwnZ34
import Derived.Test.YtohpibjjlfpaaaaGreatDoorPBookOwnZ35
import Derived.Test.YtohpibjjlfpaaaaGreatDoorPBookOwnZ36
import Derived.Test.YtohpibjjlfpaaaaGreatDoorPBookOwnZ37
import Derived.Test.YtohpibjjlfpaaaaGreatDoorPBookOwnZ38
import Derived.Test.YtohpibjjlfpaaaaGreatDoorPBookOwnZ39
import Derived.Test.YtohpibjjlfpaaaaGreatDoorPBookOwnZ40
import Derived.Test.YtohpibjjlfpaaaaGreatDoorPBookOwnZ41
import Derived.Test.YtohpibjjlfpaaaaGreatDoorPBookOwnZ42
import Derived.Test.YtohpibjjlfpaaaaGreatDoorPBookOwnZ43
import Derived.Test.YtohpibjjlfpaaaaGreatDoorPBookOwnZ44
import Derived.Test.YtohpibjjlfpaaaaGreatDoorPBookOwnZ45
import Derived.Test.YtohpibjjlfpaaaaGreatDoorPBookOwnZ46
import Derived.Test.YtohpibjjlfpaaaaGreatDoorPBookOwnZ47
import Derived.Test.YtohpibjjlfpaaaaGreatDoorPBookOwnZ48
import Derived.Test.YtohpibjjlfpaaaaGreatDoorPBookOwnZ49
import Derived.Test.YtohpibjjlfpaaaaGreatDoorPBookOwnZ50
import Derived.Test.YtohpibjjlfpaaaaGreatDoorPBookOwnZ51
import Derived.Test.YtohpibjjlfpaaaaGreatDoorPBookOwnZ52
import Derived.Test.YtohpibjjlfpaaaaGreatDoorPBookOwnZ53
import Derived.Test.YtohpibjjlfpaaaaGreatDoorCards
import Derived.Test.YtohpibjjlfpaaaaGreatDoorRows
import Derived.Test.YtohpibjjlfpaaaaGreatDoorTie
import Derived.Below
import Derived.BigQuiet
import Derived.BigRegion
import Derived.Carry
import Derived.ChangeArms
import Derived.ChangeOld
import Derived.DataElems
import Derived.Deep.AppendSrc
import Derived.Deep.DeepAppendRoom
import Derived.Deep.DeepCutAuto
import Derived.Deep.DeepHandedRow
import Derived.Deep.DeepLaidRun
import Derived.Deep.DeepWitnessRowRef
import Derived.Deep.LoopGhost
import Derived.Deep.OwnRows
import Derived.Deep.QuietTactic
import Derived.Deep.RegionHeld3
import Derived.Deep.RegionLaw
import Derived.Deep.RegionWith
import Derived.Deep.SlicePairs
import Derived.Deep.Slices
import Derived.Deep.Strs
import Derived.Handy
import Derived.IntWalk
import Derived.LaidLaws
import Derived.Laws.AppendOwn
import Derived.Laws.BytesArg
import Derived.Laws.CopyOwn
import Derived.Laws.CopyRow
import Derived.Laws.Cover1
import Derived.Laws.Externs
import Derived.Laws.NewBlocks
import Derived.Laws.OwnMore
import Derived.Laws.StandIn
import Derived.Lib.AppendZerosOnto
import Derived.Lib.AtoiAll
import Derived.Lib.AtoiTie
import Derived.Lib.Bytealg
import Derived.Lib.CutLaws
import Derived.Lib.Hide
import Derived.Lib.ItoaLen
import Derived.Lib.ItoaNum
import Derived.Lib.LaidTab
import Derived.Lib.LastIndexLaws
import Derived.Lib.Overlaps
import Derived.Lib.SliceRun
import Derived.Lib.SmallJoins
import Derived.Lib.SplitLaws
import Derived.Lib.Walk
import Derived.Maps.Own
import Derived.Maps.OwnSet
import Derived.Maps.Views
import Derived.OpenShut
import Derived.Outline
import Derived.OwnWalk
import Derived.PlainAid
import Derived.ProofKit
import Derived.RegionTactic
import Derived.RowKit3
import Derived.Shelf.Abstract
import Derived.Shelf.LaysC
import Derived.Shelf.LaysM
import Derived.Shelf.RegionOpenPlain
import Derived.Shelf.Small.Strs
import Derived.Shelf.Strconv.Atoi
import Derived.Shelf.Strconv.AtoiAll
import Derived.Shelf.Strconv.AtoiErrFast
import Derived.Shelf.Strconv.AtoiFail
import Derived.Shelf.Strconv.AtoiInnerAll
import Derived.Shelf.Strconv.AtoiLong
import Derived.Shelf.Strconv.Clone
import Derived.Shelf.Strconv.ErrVarAll
import Derived.Shelf.Strconv.Itoa0
import Derived.Shelf.Strconv.Itoa1
import Derived.Shelf.Strconv.Itoa2
import Derived.Shelf.Strconv.Itoa3
import Derived.Shelf.Strconv.Lower
import Derived.Shelf.Strconv.ParseInt10
import Derived.Shelf.Strconv.ParseIntEmpty
import Derived.Shelf.Strconv.ParseUint10
import Derived.Shelf.Strconv.ParseUint10Any
import Derived.Shelf.Strconv.ParseUint10Empty
import Derived.Shelf.Strconv.RangeError
import Derived.Shelf.Strconv.SyntaxError
import Derived.Shelf.Strconv.ToError
import Derived.Shelf.Strconv.ToErrorRange
import Derived.Shelf.Strings.Builder1
import Derived.Shelf.Strings.BuilderF
import Derived.Shelf.Strings.BuilderK
import Derived.Shelf.Strings.Count
import Derived.Shelf.Strings.Cut
import Derived.Shelf.Strings.Explode
import Derived.Shelf.Strings.LastIndex
import Derived.Shelf.Strings.LastIndexAll
import Derived.Shelf.Strings.RuneCount
import Derived.Shelf.Strings.Search1
import Derived.Shelf.Strings.Search2
import Derived.Shelf.Strings.Search3
import Derived.Shelf.Strings.Shaped
import Derived.Shelf.Strings.Split
import Derived.Shelf.Strings.SplitShaped
import Derived.Shelf.Unicode.Decode
import Derived.Shelf.Unicode.DecodeAny
import Derived.Shelf.Unicode.DecodeSlow
import Derived.Shelf.Utf8.RuneCount
import Derived.Shelf.Vars
import Derived.ShutString
import Derived.SizedLaws
import Derived.Sort.Walk0
import Derived.Stop.LaidErr
import Derived.StringKeys
import Derived.WalkKit
import Derived.WalkSpells
import GoSem.PinnedTables
namespace Go.Proofs.YtohpibjjlfpaaaaGreatDoor.bookOwn
open Go.ChangeShapes Go.WideShapes Go.ChangeAt Go.RowKit Go.Joins
open Go.ChangeMaps (open_string shut_string)
set_option linter.unusedVariables false
set_option maxRecDepth 100000

theorem own : ownKnob Tryz.prog.godebug = none := by kernel_rfl
theorem laidOut : laidOutB Tryz.prog = true := by kernel_rfl

theorem small_string {P : Program} {H : Type} {ts : List TypeId} {ds : List (DataW H)} (h : (DataW.weightsEach P ts ds).all (· ≤ reachBytes) = true) (j : Nat) (s : ByteArray) (ht : ts[j]? = some 9) (hd : ds[j]? = some (.lit (.string s.data.toList))) : s.size ≤ 140737488355328 := by
  have h1 := sized_string h (j := j) ht hd
  have h2 := reachBytes_lt
  have e2 : s.data.toList.length = s.size := Array.length_toList
  have e3 : (2 : Nat) ^ 47 = 140737488355328 := by decide
  omega

theorem contract (H : Type) (enc : TypeId × Value → H) (W : World) (base : Nat) (args : Array Value) (ds gs : List (DataW H)) (before : List MemPlace)
    (hval0 : ∀ (j : Nat) t v, Tryz.f3.params[j]? = some t → args[j]? = some v → Value.okWide Tryz.prog W .any base t v)
    (hW : DataW.Whole enc Tryz.prog Tryz.f3.params.toList Rows.bookOwnSpec.vars false W args.toList ds gs before) (hsz0 : (DataW.weightsEach Tryz.prog (Tryz.f3.params.toList ++ (OpenSpec.ofChange Rows.bookOwnSpec).bare.plain.varTypes Tryz.prog) (ds ++ gs)).all (· ≤ reachBytes) = true) (hL : laidMetH Tryz.prog Rows.bookOwnRow.laid W) (hS : W.ShapedOpen Tryz.prog) :
    Calls Tryz.prog 3 args W fun e W' => ∃ v, e = .returned v ∧ Rows.bookOwnSpec.post enc Tryz.prog Tryz.f3 false true false false W args v W' := by
  have hval : ∀ (j : Nat) t v, Tryz.f3.params[j]? = some t → args[j]? = some v → Value.okWide Tryz.prog W .any base t v := hval0
  have hW' := hW
  obtain ⟨p, q, hA0, hV, rfl, hfz, hnd⟩ := hW
  have hA : DataW.TrodAll enc Tryz.prog W 0 (fun _ => true) true Tryz.f3.params.toList args.toList ds p := hA0
  have hsz : (DataW.weightsEach Tryz.prog (Tryz.f3.params.toList ++ Rows.bookOwnSpec.plain.varTypes Tryz.prog) (ds ++ gs)).all (· ≤ reachBytes) = true := hsz0
  clear hsz0
  rw [Tryz.params3] at hA hval hsz
  obtain ⟨v0, vs0, d0, ds0, p0, q0, hargs, rfl, rfl, h0, r0⟩ := trodAll_cons hA
  obtain ⟨v1, vs1, d1, ds1, p1, q1, rfl, rfl, rfl, h1, r1⟩ := trodAll_cons r0
  obtain ⟨v2, vs2, d2, ds2, p2, q2, rfl, rfl, rfl, h2, r2⟩ := trodAll_cons r1
  obtain ⟨v3, vs3, d3, ds3, p3, q3, rfl, rfl, rfl, h3, r3⟩ := trodAll_cons r2
  obtain ⟨v4, vs4, d4, ds4, p4, q4, rfl, rfl, rfl, h4, r4⟩ := trodAll_cons r3
  obtain ⟨rfl, rfl, rfl⟩ := trodAll_nil r4
  obtain rfl : args = #[v0, v1, v2, v3, v4] := by cases args; simp_all
  obtain ⟨rfl, rfl⟩ := trodVars_none hV
  have k0 := h0
  have lt0 : ∀ x ∈ p0, x.block < W.heap.size := by obtain ⟨m, hm⟩ := k0; exact DataW.trod_lt m _ _ _ hm
  obtain ⟨c00, c01, c02, y00, y01, y02, m0, rfl, hd0, hp0, hy00, hy01, hy02⟩ := open_agg3 Tryz.underlying25 (by kernel_rfl) (show Tryz.prog.cellsOf 25 = 3 by kernel_rfl) (hval 0 25 v0 rfl rfl) h0
  obtain ⟨A0, n0, cc0, xs0, e00, wa0⟩ := open_ac hy00
  subst e00
  obtain ⟨X0, mm0, kk0, es0, e01, wb0, wc0, wd0, we0, wf0⟩ := open_en hy01
  subst e01
  obtain ⟨s0, e02, _, wg0⟩ := DataW.trod_int Tryz.underlying3 hy02
  simp at e02
  subst e02
  have k1 := h1
  have lt1 : ∀ x ∈ p1, x.block < W.heap.size := by obtain ⟨m, hm⟩ := k1; exact DataW.trod_lt m _ _ _ hm
  obtain ⟨c10, c11, c12, y10, y11, y12, m1, rfl, hd1, hp1, hy10, hy11, hy12⟩ := open_agg3 Tryz.underlying28 (by kernel_rfl) (show Tryz.prog.cellsOf 28 = 3 by kernel_rfl) (hval 1 28 v1 rfl rfl) h1
  obtain ⟨a10, e10, _, w10⟩ := DataW.trod_string Tryz.underlying9 hy10
  simp at e10
  subst e10
  obtain ⟨a11, e11, _, w11⟩ := DataW.trod_int Tryz.underlying3 hy11
  simp at e11
  subst e11
  obtain ⟨a12, len1, cap1, z1, e12, w12⟩ := open_ln hy12
  subst e12
  obtain ⟨a2', len2', cap2', rfl⟩ := okWide_slice Tryz.underlying29 (hval 2 29 v2 rfl rfl)
  have k2 := h2
  have lt2 : ∀ x ∈ p2, x.block < W.heap.size := by obtain ⟨m, hm⟩ := k2; exact DataW.trod_lt m _ _ _ hm
  obtain ⟨a2, len2, cap2, z2, e2, w2⟩ : ∃ a len cap zs, Value.slice a2' len2' cap2' = .slice a len cap ∧ Ps W a zs ∧ zs.length = len ∧ len ≤ cap ∧ cap ≤ maxLen ∧ (a = none → len = 0) := by
    obtain ⟨fuel, hf⟩ := h2
    have hf2 : DataW.trod enc Tryz.prog W 0 (fun _ => true) true fuel 29 [.slice a2' len2' cap2'] = some (d2, p2) := by simpa [Value.cells] using hf
    exact open_pl hf2
  obtain ⟨rfl, rfl, rfl⟩ : a2 = a2' ∧ len2 = len2' ∧ cap2 = cap2' := by injection e2 with h1 h2 h3; exact ⟨h1.symm, h2.symm, h3.symm⟩
  obtain ⟨a3, rfl, rfl, rfl, w3⟩ := open_int Tryz.underlying3 (hval 3 3 v3 rfl rfl) h3
  obtain ⟨a4, rfl, rfl, rfl, w4⟩ := open_string Tryz.underlying9 (hval 4 9 v4 rfl rfl) h4
  have Lt0 : Light Tryz.prog 25 (.agg [y00.1, y01.1, y02.1]) := hd0 ▸ light_param hsz 0 rfl rfl
  have La := light_part Tryz.underlying25 Lt0 0 rfl rfl
  have Lb := light_part Tryz.underlying25 Lt0 1 rfl rfl
  have Lt1 : Light Tryz.prog 28 (.agg [y10.1, y11.1, y12.1]) := hd1 ▸ light_param hsz 1 rfl rfl
  have Lc := light_part Tryz.underlying28 Lt1 2 rfl rfl
  have R1 := light_len La Tryz.underlying22 24 (by kernel_rfl) hy00
  have R2 := light_len Lb Tryz.underlying23 48 (by kernel_rfl) hy01
  have R3 := ent_reach Lb hy01 wb0 wc0
  have R4 := light_len Lc Tryz.underlying26 24 (by kernel_rfl) hy12
  have R5 : len2 * 80 ≤ 140737488351232 := len_reach hsz 2 rfl rfl Tryz.underlying29 80 (by kernel_rfl) (by obtain ⟨m, hm⟩ := k2; exact ⟨m, by simpa [Value.cells] using hm⟩)
  clear hA0 hval0
  refine (bookOwn_walk W (Lgc.tb hL hS) (Lgc.tab hL) A0 n0 cc0 X0 mm0 kk0 ⟨xs0, es0, s0⟩ ⟨wa0.lq, wb0, wc0, wd0, we0, wf0⟩ R1 R2 R3 ⟨a10, a11, z1⟩ a12 len1 cap1 w12.lq w10 R4 a2 len2 cap2 z2 w2 R5 a3 w3 a4 w4).mono fun e W' ⟨he, bel⟩ => ?_
  subst he
  exact ⟨_, rfl, _, _, _, [], _, [], hW', trodAll_mk1 (shut_bool Tryz.underlying4 _), (trodAll_cons_mk (Below.trod laidOut (by kernel_rfl) (of_decide_eq_true (by kernel_rfl)) k0 bel lt0) (trodAll_cons_mk (Below.trod laidOut (by kernel_rfl) (of_decide_eq_true (by kernel_rfl)) k1 bel lt1) (trodAll_cons_mk (Below.trod laidOut (by kernel_rfl) (of_decide_eq_true (by kernel_rfl)) k2 bel lt2) (trodAll_cons_mk (shut_int Tryz.underlying3 w3) (trodAll_cons_mk (shut_string Tryz.underlying9 w4) trodAll_mk0))))), rfl, bel.frame _, fun h => by cases h⟩

theorem reads (os : Os) {H : Type} (enc : TypeId × Value → H) : ∃ places, DataW.whole enc Tryz.prog ((Lgc.laidWorld os).forCall (fun _ _ => 0) ⟨#[], #[.agg #[.slice none 0 0, .slice none 0 0, .int .i64 0], .agg #[.string ByteArray.empty, .int .i64 0, .slice none 0 0], .slice none 0 0, .int .i64 0, .string ByteArray.empty], []⟩).memory Tryz.f3.params.toList Rows.bookOwnSpec.vars false (#[.agg #[.slice none 0 0, .slice none 0 0, .int .i64 0], .agg #[.string ByteArray.empty, .int .i64 0, .slice none 0 0], .slice none 0 0, .int .i64 0, .string ByteArray.empty] : Array Value).toList 8 = some ([.agg [.nil, .nil, .lit (.int .i64 0)], .agg [.lit (.string []), .lit (.int .i64 0), .nil], .nil, .lit (.int .i64 0), .lit (.string [])], [], places) :=
  ⟨[], by kernel_rfl⟩

set_option maxRecDepth 100000 in
theorem lifted (os : Os) (started : os.Started) (H : Type) (enc : TypeId × Value → H) (F : Stop.Interp) :
    ReturnsInHanded {} Tryz.checked os 3 .any ((OpenSpec.ofChange Rows.bookOwnSpec).preRow enc Tryz.prog Tryz.f3 Rows.bookOwnRow.domain false Rows.bookOwnRow.laid) (((OpenSpec.ofChange Rows.bookOwnSpec).at F).post enc Tryz.prog Tryz.f3 false true false false) := by
  obtain ⟨places, hx⟩ := reads os enc
  refine returnsInHanded_of_row (C := Tryz.checked) (s := OpenSpec.ofChange Rows.bookOwnSpec) own started (by kernel_rfl) Tryz.func3
    (witness_row_atRef (enc := enc) (C := Tryz.checked) false (Lgc.laidWorld os) #[.agg #[.slice none 0 0, .slice none 0 0, .int .i64 0], .agg #[.string ByteArray.empty, .int .i64 0, .slice none 0 0], .slice none 0 0, .int .i64 0, .string ByteArray.empty] rfl (by kernel_rfl) (by kernel_rfl) (by kernel_rfl)
      (OpenSpec.preRow_of_cond 8 hx (by kernel_rfl) (fun k hk => by cases hk) (by kernel_rfl) (Lgc.laid_metH os _))) ?_
  intro W base args ds gs before hval hW _ _ hsz hL hS _
  exact contract H enc W base args ds gs before hval hW hsz hL hS

theorem said : Rows.BookOwnSaid :=
  OpenClaim.holds_of_cond 3 Tryz.f3 rfl rfl rfl rfl rfl rfl rfl ⟨rfl, rfl, rfl, rfl, rfl⟩ rfl rfl rfl rfl rfl (by kernel_rfl) Tryz.func3 (by kernel_rfl)
    (of_decide_eq_true (by kernel_rfl)) (by unfold Func.isWrapper; first | (rw [if_pos (by decide +kernel)]; kernel_rfl) | (rw [if_neg (by decide +kernel)]; exact ⟨rfl, rfl⟩))
    (fun os started H enc _ F => by rw [OpenClaim.pre_eq_preRow]; exact lifted os started H enc F)

/-- no parameter wants a stand-in; the program's own looks are off -/
theorem plain (f : FuncId) (fn : Func) (hf : Tryz.pinned.checked.prog.funcNamed "tallage/talkeep.BookOwn" = some f) (hfn : Tryz.pinned.checked.prog.funcs[f]? = some fn) :
    true = Tryz.pinned.checked.prog.looks [] ∧ ∀ (j : Nat) t, fn.params[j]? = some t → Tryz.pinned.checked.prog.wantsStandIn t = false := by
  obtain rfl : f = 3 := Option.some.inj ((show Tryz.prog.funcNamed "tallage/talkeep.BookOwn" = some 3 by kernel_rfl).symm.trans hf) |>.symm
  obtain rfl : fn = Tryz.f3 := (Option.some.inj (Tryz.func3.symm.trans hfn)).symm
  refine ⟨by kernel_rfl, fun j t ht => ?_⟩
  rw [Tryz.params3] at ht
  have hm : t ∈ [25, 28, 29, 3, 9] := by simpa using Array.mem_of_getElem? ht
  have hall : ([25, 28, 29, 3, 9].all fun u => !Tryz.prog.wantsStandIn u) = true := by kernel_rfl
  exact (show Tryz.prog.wantsStandIn t = false by simpa using List.all_eq_true.1 hall t hm)

/-- the card -/
theorem proved : Rows.BookOwnCardSaid :=
  Claim7.holds_tied_plain_at .later [] _ _ _ _ said (fun _ h => by cases h) (by kernel_rfl) (fun _ h => by cases h) bookOwn_row_tie rfl ⟨rfl, rfl⟩ (by kernel_rfl) rfl plain (by kernel_rfl)
#print axioms proved
end Go.Proofs.YtohpibjjlfpaaaaGreatDoor.bookOwn
