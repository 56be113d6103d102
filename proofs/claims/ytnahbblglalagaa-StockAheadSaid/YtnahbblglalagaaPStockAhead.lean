/- talkeep.StockAhead: for every input the call returns true and each argument reads behind the call as it read before. No condition.
   The frame of the claim; the walk lies in YtnahbblglalagaaWStockAhead. -/
import Derived.SizedLaws
import Derived.Test.YtnahbblglalagaaSizA
import Derived.Test.YtnahbblglalagaaWStockAhead
import Derived.WalkKit
import Derived.ProofKit
import Derived.OpenShut
import Derived.ShutString
import Derived.ChangeOld
import Derived.Below
import Derived.Lib.SmallJoins
namespace Go.Proofs.Ytnahbblglalagaa.stockAhead
open Go.ChangeShapes Go.WideShapes Go.ChangeAt Go.RowKit Go.Joins
open Go.ChangeMaps (open_string shut_string)
set_option linter.unusedVariables false

theorem own : ownKnob Try.prog.godebug = none := by kernel_rfl
theorem laidOut : laidOutB Try.prog = true := by kernel_rfl

set_option maxRecDepth 100000 in
theorem lifted (os : Os) (started : os.Started) (H : Type) (enc : TypeId × Value → H) :
    ReturnsInHanded {} Try.checked os 3 .any (Rows.stockAheadSpec.pre6 enc Try.prog Try.f3 Rows.stockAheadRow.domain false) (Rows.stockAheadSpec.post enc Try.prog Try.f3 false true false false) := by
  refine returnsInHanded_of_change_sized (C := Try.checked) own started (by kernel_rfl) Try.func3
    (ChangeSpec.witness6 (enc := enc) (C := Try.checked) false ⟨#[], #[.slice none 0 0, .slice none 0 0], []⟩ 8 (by kernel_rfl) (by kernel_rfl) (by kernel_rfl) (by kernel_rfl)) ?_
  intro W base args ds gs before hval0 hW _ hsz0 _
  have hsz : (DataW.weightsEach Try.prog (Try.f3.params.toList ++ Rows.stockAheadSpec.plain.varTypes Try.prog) (ds ++ gs)).all (· ≤ reachBytes) = true := hsz0
  clear hsz0
  have hval : ∀ (j : Nat) t v, Try.f3.params[j]? = some t → args[j]? = some v → Value.okWide Try.prog W .any base t v := hval0
  have hW' := hW
  obtain ⟨p, q, hA0, hV, rfl, hfz, hnd⟩ := hW
  have hA : DataW.TrodAll enc Try.prog W 0 (fun _ => true) true Try.f3.params.toList args.toList ds p := hA0
  rw [Try.params3] at hA hval hsz
  obtain ⟨v0, vs0, d0, ds0, p0, q0, hargs, rfl, rfl, h0, r0⟩ := trodAll_cons hA
  obtain ⟨v1, vs1, d1, ds1, p1, q1, rfl, rfl, rfl, h1, r1⟩ := trodAll_cons r0
  obtain ⟨rfl, rfl, rfl⟩ := trodAll_nil r1
  obtain rfl : args = #[v0, v1] := by cases args; simp_all
  obtain ⟨rfl, rfl⟩ := trodVars_none hV
  obtain ⟨a0', len0', cap0', rfl⟩ := okWide_slice Try.underlying22 (hval 0 22 v0 rfl rfl)
  have k0 := h0
  have lt0 : ∀ x ∈ p0, x.block < W.heap.size := by obtain ⟨m, hm⟩ := k0; exact DataW.trod_lt m _ _ _ hm
  obtain ⟨a0, len0, cap0, z0, e0, w0⟩ : ∃ a len cap zs, Value.slice a0' len0' cap0' = .slice a len cap ∧ IsPr W a len cap zs := by
    obtain ⟨fuel, hf⟩ := h0
    have hf2 : DataW.trod enc Try.prog W 0 (fun _ => true) true fuel 22 [.slice a0' len0' cap0'] = some (d0, p0) := by simpa [Value.cells] using hf
    exact open_pr Try.underlying22 Try.underlying29 (by kernel_rfl) rfl rfl (by kernel_rfl) (by kernel_rfl) Try.underlying3 Try.underlying3 hf2
  have reach0 : len0' * 16 ≤ 140737488351232 := by
    obtain ⟨fuel, hf⟩ := k0
    have hf2 : DataW.trod enc Try.prog W 0 (fun _ => true) true fuel 22 [.slice a0' len0' cap0'] = some (d0, p0) := by simpa [Value.cells] using hf
    rcases pr_size Try.underlying22 Try.underlying29 (by kernel_rfl) rfl rfl (by kernel_rfl) (by kernel_rfl) hf2 with h0 | ⟨elems, sp, hd, hl⟩
    · rw [h0]; omega
    · have := sized_slice hsz (j := 0) (t := 22) (e := 29) (elems := elems) (spare := sp) rfl (by rw [hd]; rfl) Try.underlying22
      rw [show Try.prog.bytesOf 29 = 16 by kernel_rfl] at this
      unfold reachBytes at this
      omega
  obtain ⟨rfl, rfl, rfl⟩ : a0 = a0' ∧ len0 = len0' ∧ cap0 = cap0' := by injection e0 with h1 h2 h3; exact ⟨h1.symm, h2.symm, h3.symm⟩
  obtain ⟨a1', len1', cap1', rfl⟩ := okWide_slice Try.underlying22 (hval 1 22 v1 rfl rfl)
  have k1 := h1
  have lt1 : ∀ x ∈ p1, x.block < W.heap.size := by obtain ⟨m, hm⟩ := k1; exact DataW.trod_lt m _ _ _ hm
  obtain ⟨a1, len1, cap1, z1, e1, w1⟩ : ∃ a len cap zs, Value.slice a1' len1' cap1' = .slice a len cap ∧ IsPr W a len cap zs := by
    obtain ⟨fuel, hf⟩ := h1
    have hf2 : DataW.trod enc Try.prog W 0 (fun _ => true) true fuel 22 [.slice a1' len1' cap1'] = some (d1, p1) := by simpa [Value.cells] using hf
    exact open_pr Try.underlying22 Try.underlying29 (by kernel_rfl) rfl rfl (by kernel_rfl) (by kernel_rfl) Try.underlying3 Try.underlying3 hf2
  have reach1 : len1' * 16 ≤ 140737488351232 := by
    obtain ⟨fuel, hf⟩ := k1
    have hf2 : DataW.trod enc Try.prog W 0 (fun _ => true) true fuel 22 [.slice a1' len1' cap1'] = some (d1, p1) := by simpa [Value.cells] using hf
    rcases pr_size Try.underlying22 Try.underlying29 (by kernel_rfl) rfl rfl (by kernel_rfl) (by kernel_rfl) hf2 with h0 | ⟨elems, sp, hd, hl⟩
    · rw [h0]; omega
    · have := sized_slice hsz (j := 1) (t := 22) (e := 29) (elems := elems) (spare := sp) rfl (by rw [hd]; rfl) Try.underlying22
      rw [show Try.prog.bytesOf 29 = 16 by kernel_rfl] at this
      unfold reachBytes at this
      omega
  obtain ⟨rfl, rfl, rfl⟩ : a1 = a1' ∧ len1 = len1' ∧ cap1 = cap1' := by injection e1 with h1 h2 h3; exact ⟨h1.symm, h2.symm, h3.symm⟩
  clear hA0 hval0
  refine (stockAhead_walk W a0 len0 cap0 z0 w0 a1 len1 cap1 z1 w1 (by omega)).mono fun e W' ⟨he, bel⟩ => ?_
  subst he
  exact ⟨_, rfl, _, _, _, [], _, [], hW', trodAll_mk1 (shut_bool Try.underlying4 _), (trodAll_cons_mk (Below.trod laidOut (by kernel_rfl) (of_decide_eq_true (by kernel_rfl)) k0 bel lt0) (trodAll_cons_mk (Below.trod laidOut (by kernel_rfl) (of_decide_eq_true (by kernel_rfl)) k1 bel lt1) trodAll_mk0)), rfl, bel.frame _, fun h => by cases h⟩

theorem over : Rows.stockAheadRow.holds Try.pinned (OpenSpec.ofChange Rows.stockAheadSpec) :=
  OpenClaim.holds_of_wide 3 Try.f3 rfl rfl rfl rfl rfl rfl rfl ⟨rfl, rfl, rfl, rfl, rfl⟩ rfl rfl rfl rfl rfl (by kernel_rfl) Try.func3 (by kernel_rfl)
    (of_decide_eq_true (by kernel_rfl)) (by unfold Func.isWrapper; first | (rw [if_pos (by decide +kernel)]; kernel_rfl) | (rw [if_neg (by decide +kernel)]; exact ⟨rfl, rfl⟩))
    (fun os started H enc _ => lifted os started H enc)

/-- the statement -/
theorem proved : Rows.StockAheadSaid := over
#print axioms proved
end Go.Proofs.Ytnahbblglalagaa.stockAhead
