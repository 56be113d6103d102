/- The walk of slices.Clone at []int. -/
import Derived.Test.YtahegjhjonodlaaDoorPItemsOwnZ1
import Derived.Test.YtahegjhjonodlaaDoorPItemsOwnZ5
import Derived.Test.YtahegjhjonodlaaDoorPItemsOwnZ6
import Derived.Test.YtahegjhjonodlaaDoorPItemsOwnZ7
import Derived.Test.YtahegjhjonodlaaDoorRows
import Derived.BigQuiet
import Derived.Deep.OwnRows
import Derived.Deep.QuietTactic
import Derived.Handy
import Derived.Lib.Hide
import Derived.OpenShut
import Derived.Outline
import Derived.OwnWalk
import Derived.ProofKit
import Derived.RegionTactic
import Derived.WalkKit
import Derived.WalkSpells
namespace Go.Proofs.YtahegjhjonodlaaDoor
open Go.ChangeShapes Go.WideShapes Go.ChangeAt Go.RowKit
set_option linter.unusedVariables false
set_option maxRecDepth 100000

@[go_sem] theorem eql_nil_int (w : World) (a : Option Addr) (n c : Nat) : (binOp .eql 22 (.slice a n c) (.slice none 0 0)).run Tryd.prog w = .ok (.bool a.isNone) w :=
  Lib.run_eql_slice_nil w _ 3 a n c 0 0 Tryd.underlying22
/-- an address is held against nil nowhere else -/
theorem Ri.lt {w : World} {x : Addr} {xs : List Int} (h : Ri w (some x) xs) : xs = [] ∨ (x.block < w.heap.size ∧ ∀ i, i < xs.length → w.cell? (x.add i) = some (.int .i64 (xs.getD i 0))) := by
  rcases h with h | ⟨y, e, hb, hc⟩
  · exact .inl h
  · injection e with e; subst e; exact .inr ⟨hb, hc⟩
/-- what slices.Clone hands back -/
def ClonePost (w : World) (n : Nat) (xs : List Int) (e : Ending) (w' : World) : Prop :=
  ∃ v, e = .returned v ∧ w'.ownsRow w.heap.size 3 1 v n (xs.map (Value.int .i64)) ∧ Mor w w'

set_option maxHeartbeats 1600000 in
theorem clone_any (A : Option Addr) (n cap : Nat) (xs : List Int) (w : World) (hr : Ri w A xs) (hn : xs.length = n) (h0 : A = none → n = 0) (hl : n ≤ 1000000) :
    Calls Tryd.prog 19 #[.slice A n cap] w (ClonePost w n xs) := by
  obtain ⟨i0, hi, hz0, hz1, hz2⟩ := info_parts info_int'
  cases A with
  | none =>
    obtain rfl := h0 rfl
    have hx : xs = [] := List.eq_nil_of_length_eq_zero hn
    subst hx
    clear hr hn h0
    go_enter Tryd.func19, Tryd.ntmps19
    go_wp2
    go_ret
    exact ⟨_, rfl, World.ownsRow_nil _ _ _ _, Mor.refl _⟩
  | some x =>
    have hc := Lib.hid (fun (W : World) (hW : Mor w W) j u (hu : (xs.map (Value.int .i64))[j]? = some u) => show W.cell? (x.add j) = some u from by
      have hj : j < xs.length := by
        rcases Nat.lt_or_ge j xs.length with h | h
        · exact h
        · rw [List.getElem?_eq_none (by simpa using h)] at hu; simp at hu
      rw [List.getElem?_map, List.getElem?_eq_getElem hj] at hu
      simp at hu
      rcases (hr.mor hW).lt with e | ⟨_, e⟩
      · subst e; simp at hj
      · rw [e j hj, ← hu, List.getD_eq_getElem?_getD, List.getElem?_eq_getElem hj]; rfl)
    have hlen : (xs.map (Value.int .i64)).length = n := by simpa using hn
    have HL := Lib.hid hlen
    clear hr hn h0 hlen
    go_enter Tryd.func19, Tryd.ntmps19
    go_wp2_with (at_builtin; refine wpList_append_own _ rfl _ _ 22 rfl w.heap.size 3 i0 (.int .i64 0) 1 8 Tryd.underlying22 hi hz0 hz1 hz2 rfl (by decide) _ 0 [] rfl ⟨by simp, .inr ⟨w.heap.size, 0, #[], rfl, Nat.le_refl _, heap_alloc_new w _, Nat.le_refl _, by unfold maxLen; omega, rfl, rfl⟩⟩ x n cap (xs.map (Value.int .i64)) rfl (by rw [HL.out]; simp) ?_ ?_ ?_ ?_ ?_ ?_)
    · exact fun j u hu => hc.out _ ((Mor.refl _).alloc) j u hu
    · intro u hu; simp at hu; obtain ⟨y, _, rfl⟩ := hu; rfl
    · unfold maxLen; omega
    · omega
    · simp
    · intro v' w1 hown hgrow _
      have HO := Lib.hid hown
      have HB : Hid (Below w.heap.size w w1) := Lib.hid (((Below.refl _ _).alloc (Nat.le_refl _) _).grown hgrow (by simp) (by intro k hk; simp [Value.ownBlock] at hk; omega))
      clear hown hgrow
      go_wp2
      go_ret
      exact ⟨v', rfl, by simpa using HO.out, Mor.of_below HB.out⟩

end Go.Proofs.YtahegjhjonodlaaDoor
