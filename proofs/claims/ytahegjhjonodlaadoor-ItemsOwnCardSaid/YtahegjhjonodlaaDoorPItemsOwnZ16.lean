/- The walk of slices.Clone at items. -/
import Derived.Test.YtahegjhjonodlaaDoorPItemsOwnZ1
import Derived.Test.YtahegjhjonodlaaDoorPItemsOwnZ3
import Derived.Test.YtahegjhjonodlaaDoorPItemsOwnZ4
import Derived.Test.YtahegjhjonodlaaDoorPItemsOwnZ5
import Derived.Test.YtahegjhjonodlaaDoorPItemsOwnZ6
import Derived.Test.YtahegjhjonodlaaDoorPItemsOwnZ7
import Derived.Test.YtahegjhjonodlaaDoorPItemsOwnZ15
import Derived.Test.YtahegjhjonodlaaDoorRows
import Derived.BigQuiet
import Derived.DataElems
import Derived.Deep.OwnRows
import Derived.Deep.QuietTactic
import Derived.Deep.SlicePairs
import Derived.Handy
import Derived.Lib.Hide
import Derived.OpenShut
import Derived.Outline
import Derived.OwnWalk
import Derived.ProofKit
import Derived.RegionTactic
import Derived.WalkKit
import Derived.WalkSpells
namespace Go.Proofs.YtahegjhjonodlaaDoor
open Go.ChangeShapes Go.WideShapes Go.ChangeAt Go.RowKit
set_option linter.unusedVariables false
set_option maxRecDepth 100000

theorem pp_len : ∀ x, (pp x).length = 2 := fun _ => rfl
theorem pp_get (xs : List Pr) (k : Nat) (hk : k < xs.length) : pp xs[k] = [.int .i64 (px xs k), .int .i64 (py xs k)] := by
  unfold pp px py
  rw [List.getD_eq_getElem?_getD, List.getElem?_eq_getElem hk]; rfl
theorem pi_flat {w : World} {x : Addr} {xs : List Pr} (h : Pi w (some x) xs) (j : Nat) (u : Value) (hu : (flat pp xs)[j]? = some u) : w.cell? (x.add j) = some u := by
  have hl := flat_len pp 2 pp_len xs
  have hj : j < xs.length * 2 := by
    rcases Nat.lt_or_ge j (flat pp xs).length with h | h
    · omega
    · rw [List.getElem?_eq_none h] at hu; cases hu
  have hk : j / 2 < xs.length := by omega
  obtain ⟨y, hy, _, c1, c2⟩ := h.at_ (j / 2) hk
  injection hy with hy
  subst hy
  have hg := flat_get pp 2 pp_len xs (j / 2) (j % 2) hk (by omega) (.int .i64 0)
  rw [show j / 2 * 2 + j % 2 = j by omega, List.getD_eq_getElem?_getD, hu, pp_get _ _ hk] at hg
  rcases Nat.mod_two_eq_zero_or_one j with hr | hr
  · rw [hr] at hg
    rw [show x.add j = x.add (j / 2 * 2) by congr 1; omega, c1]
    simpa using hg.symm
  · rw [hr] at hg
    rw [show j = j / 2 * 2 + 1 by omega, ← Addr.add_add, Addr.add_succ' (x.add (j / 2 * 2)) 0]
    have : (⟨(x.add (j / 2 * 2)).block, (x.add (j / 2 * 2)).off + 1, none⟩ : Addr) = ⟨(x.add (j / 2 * 2)).block, (x.add (j / 2 * 2)).off + (0 + 1), none⟩ := rfl
    first
      | (rw [c2]; simpa using hg.symm)
      | (simpa [c2] using hg.symm)
theorem flat_oneY (xs : List Pr) : ∀ u ∈ flat pp xs, u.oneCell' = true := by
  intro u hu
  simp only [flat, List.mem_flatMap, pp, List.mem_cons, List.not_mem_nil, or_false] at hu
  obtain ⟨x, _, rfl | rfl⟩ := hu <;> rfl
/-- a slice of items that the call made -/
def MadeIt (w : World) (n : Nat) (ys : List Pr) (e : Ending) (w' : World) : Prop :=
  ∃ v, e = .returned v ∧ w'.ownsRow w.heap.size 52 2 v n (flat pp ys) ∧ Mor w w'
@[go_sem] theorem eql_nil_it (w : World) (a : Option Addr) (n c : Nat) : (binOp .eql 48 (.slice a n c) (.slice none 0 0)).run Tryd.prog w = .ok (.bool a.isNone) w :=
  Lib.run_eql_slice_nil w _ 52 a n c 0 0 Tryd.underlying48

set_option maxHeartbeats 1600000 in
theorem clone_it (A : Option Addr) (n cap : Nat) (xs : List Pr) (w : World) (hr : Pi w A xs) (hn : xs.length = n) (h0 : A = none → n = 0) (hl : n ≤ 1000000) :
    Calls Tryd.prog 41 #[.slice A n cap] w (MadeIt w n xs) := by
  obtain ⟨i0, hi, hz0, hz1, hz2⟩ := info_parts info_item
  cases A with
  | none =>
    obtain rfl := h0 rfl
    have hx : xs = [] := List.eq_nil_of_length_eq_zero hn
    subst hx
    clear hr hn h0
    go_enter Tryd.func41, Tryd.ntmps41
    go_wp2
    go_ret
    exact ⟨_, rfl, World.ownsRow_nil _ _ _ _, Mor.refl _⟩
  | some x =>
    have HC := Lib.hid (fun (W : World) (hW : Mor w W) j u hu => pi_flat (hr.mor hW) j u hu)
    have HL := Lib.hid (show (flat pp xs).length = n * 2 by rw [flat_len pp 2 pp_len, hn])
    clear hr hn h0
    go_enter Tryd.func41, Tryd.ntmps41
    go_wp2_with (at_builtin; refine wpList_append_own _ rfl _ _ 48 rfl w.heap.size 52 i0 (.agg #[.int .i64 0, .int .i64 0]) 2 16 Tryd.underlying48 hi hz0 hz1 hz2 rfl (by decide) _ 0 [] rfl ⟨by simp, .inr ⟨w.heap.size, 0, #[], rfl, Nat.le_refl _, heap_alloc_new w _, Nat.le_refl _, by unfold maxLen; omega, rfl, rfl⟩⟩ x n cap (flat pp xs) rfl (by rw [HL.out]) ?_ ?_ ?_ ?_ ?_ ?_)
    case refine_6 =>
      intro v' w1 hown hgrow _
      have HO := Lib.hid hown
      have HB : Hid (Below w.heap.size w w1) := Lib.hid (((Below.refl _ _).alloc (Nat.le_refl _) _).grown hgrow (by simp) (by intro k hk; simp [Value.ownBlock] at hk; omega))
      clear hown hgrow
      go_wp2
      go_ret
      exact ⟨v', rfl, by simpa using HO.out, Mor.of_below HB.out⟩
    all_goals try (first | (exact fun j u hu => HC.out _ ((Mor.refl _).alloc) j u hu) | (exact flat_oneY xs) | (unfold maxLen; omega) | omega | simp)

end Go.Proofs.YtahegjhjonodlaaDoor
