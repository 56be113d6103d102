/- clear at items; the closures of age.Pay; slices.IndexFunc and slices.DeleteFunc at items. -/
import Derived.Test.YtahegjhjonodlaaDoorPItemsOwnZ1
import Derived.Test.YtahegjhjonodlaaDoorPItemsOwnZ3
import Derived.Test.YtahegjhjonodlaaDoorPItemsOwnZ4
import Derived.Test.YtahegjhjonodlaaDoorPItemsOwnZ5
import Derived.Test.YtahegjhjonodlaaDoorPItemsOwnZ6
import Derived.Test.YtahegjhjonodlaaDoorPItemsOwnZ7
import Derived.Test.YtahegjhjonodlaaDoorPItemsOwnZ13
import Derived.Test.YtahegjhjonodlaaDoorRows
import Derived.BigQuiet
import Derived.DataElems
import Derived.Deep.OwnRows
import Derived.Deep.QuietTactic
import Derived.Deep.RegionHeld3
import Derived.Deep.SlicePairs
import Derived.Handy
import Derived.Laws.IdiomCopy
import Derived.Lib.Hide
import Derived.OpenShut
import Derived.Outline
import Derived.OwnWalk
import Derived.ProofKit
import Derived.RegionTactic
import Derived.Shelf.Abstract
import Derived.WalkKit
namespace Go.Proofs.YtahegjhjonodlaaDoor.Sv
open Go.ChangeShapes Go.WideShapes Go.ChangeAt Go.RowKit Stb
set_option linter.unusedVariables false
set_option maxRecDepth 100000

/-- 'clear' of n > 0 items -/
theorem run_clear2 (w : World) (ty : TypeId) (b o n c : Nat) (hn : 0 < n) (hv : ∀ w, (zeroValue 52).run Tryd.prog w = .ok (.agg #[.int .i64 0, .int .i64 0]) w)
    (hc : ∀ j, j < n * 2 → (w.cell? ⟨b, o + j, none⟩).isSome = true) (hf : ∀ j, j < n * 2 → w.frozen? ⟨b, o + j, none⟩ = false) :
    (Builtin.clear_ #[48] ty #[.slice (some ⟨b, o, none⟩) n c]).run Tryd.prog w = .ok (.tuple #[]) (w.setCells b o (List.replicate (n * 2) (.int .i64 0))) := by
  have hzc : (Builtin.zeroCells (Value.agg #[.int .i64 0, .int .i64 0]).cells n).toList = List.replicate (n * 2) (.int .i64 0) := by
    simp [Builtin.zeroCells, Value.cells]
    apply List.ext_getElem
    · simp
    · intro i h1 h2
      have : i % 2 < 2 := Nat.mod_lt _ (by omega)
      rcases Nat.mod_two_eq_zero_or_one i with e | e <;> simp [e]
  have hst := run_storeCells_cells (P := Tryd.prog) b o (List.replicate (n * 2) (.int .i64 0)) 0 w (by simpa using hc) (by simpa using hf) (by intro v hv'; rw [List.eq_of_mem_replicate hv']; rfl)
  simp only [Nat.add_zero] at hst
  obtain ⟨m, rfl⟩ : ∃ m, n = m + 1 := ⟨n - 1, by omega⟩
  simp [Builtin.clear_, run_underlying Tryd.underlying48, hv, hzc, hst]

theorem CurP.out {cur : Array Value} {xs : List Pr} (h : CurP cur xs) (o : Nat) (u : Value) (ho : xs.length * 2 ≤ o) : CurP (cur.setIfInBounds o u) xs := fun i hi => by
  rw [Array.getElem?_setIfInBounds, Array.getElem?_setIfInBounds, if_neg (by omega), if_neg (by omega)]
  exact h i hi
theorem Dat.out {w : World} {g : Nat} {xs : List Pr} (h : Dat w g xs) (o : Nat) (u : Value) (ho : xs.length * 2 ≤ o) : Dat (w.setCell ⟨g, o, none⟩ u) g xs := by
  obtain ⟨T, cur, hb, hc⟩ := h
  exact ⟨T, _, hb.set_ _ _, hc.out o u ho⟩
theorem Dat.outs {g : Nat} {xs : List Pr} (us : List Value) : ∀ {w : World} (o : Nat), Dat w g xs → xs.length * 2 ≤ o → Dat (w.setCells g o us) g xs := by
  induction us with
  | nil => intro w o h _; exact h
  | cons u us ih => intro w o h ho; exact ih (o + 1) (h.out o u ho) (by omega)
theorem On.outs {g : Nat} {w : World} (us : List Value) : ∀ {w' : World} (o : Nat), On g w w' → On g w (w'.setCells g o us) := by
  induction us with
  | nil => intro w' o h; exact h
  | cons u us ih => intro w' o h; exact ih (o + 1) (h.setCell u)
theorem Dat.take {w : World} {g : Nat} {xs : List Pr} (h : Dat w g xs) (k : Nat) : Dat w g (xs.take k) := by
  obtain ⟨T, cur, hb, hc⟩ := h
  refine ⟨T, cur, hb, fun i hi => ?_⟩
  rw [List.length_take] at hi
  have e : ge (xs.take k) i = ge xs i := by
    unfold ge
    rw [List.getD_eq_getElem?_getD, List.getElem?_take, if_pos (by omega), ← List.getD_eq_getElem?_getD]
  rw [e]; exact hc i (by omega)
theorem Dat.pi {w : World} {g : Nat} {xs : List Pr} (h : Dat w g xs) : Pi w (some ⟨g, 0, none⟩) xs := by
  refine .inr ⟨_, rfl, h.lt, fun i hi => ?_⟩
  obtain ⟨c1, c2⟩ := h.cell i hi
  rw [adds, Nat.zero_add]
  exact ⟨c1, c2⟩

/-- by days -/
theorem paycmp_any (x y : Pr) (w : World) (hx : okP x) (hy : okP y) : Calls Tryd.prog 71 #[.agg #[.int .i64 x.1, .int .i64 x.2], .agg #[.int .i64 y.1, .int .i64 y.2]] w fun e w' => e = .returned (.int .i64 (x.1 - y.1)) ∧ Mor w w' := by
  obtain ⟨x1, x2, _, _⟩ := hx
  obtain ⟨y1, y2, _, _⟩ := hy
  generalize x.1 = a at *
  generalize x.2 = b at *
  generalize y.1 = c at *
  generalize y.2 = d at *
  go_enter Tryd.func71, Tryd.ntmps71
  go_wp2
  go_ret
  exact ⟨rfl, by repeat (first | exact Mor.refl _ | apply Mor.alloc | apply Mor.drewN | apply Mor.drew)⟩
theorem paynil_any (x : Pr) (w : World) : Calls Tryd.prog 73 #[.agg #[.int .i64 x.1, .int .i64 x.2]] w fun e w' => e = .returned (.bool (decide (x.2 = 0))) ∧ Mor w w' := by
  generalize x.1 = a at *
  generalize x.2 = b at *
  go_enter Tryd.func73, Tryd.ntmps73
  go_wp2
  go_ret
  refine ⟨?_, by repeat (first | exact Mor.refl _ | apply Mor.alloc | apply Mor.drewN | apply Mor.drew)⟩
  by_cases h : b = 0
  · subst h; rfl
  · simp [h]

end Go.Proofs.YtahegjhjonodlaaDoor.Sv
