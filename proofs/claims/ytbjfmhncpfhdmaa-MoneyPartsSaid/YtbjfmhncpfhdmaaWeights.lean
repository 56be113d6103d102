/- The walk of talkeep.weights. -/
import Derived.Test.YtbjfmhncpfhdmaaInts
import Derived.Test.YtbjfmhncpfhdmaaFracA
namespace Go.Proofs.Ytbjfmhncpfhdmaa
open Go.ChangeShapes Go.WideShapes Go.ChangeAt Go.RowKit
set_option linter.unusedVariables false

/-- weights(vs) -/
def wl (vs : List Int) : List Int := (vs.take 40).map (fun v => wi v 1000)
theorem wl_len (vs : List Int) : (wl vs).length = min 40 vs.length := by simp [wl]
theorem wl_bd (vs : List Int) : ∀ v ∈ wl vs, 0 ≤ v ∧ v < 1000 := by
  intro v hv
  simp only [wl, List.mem_map] at hv
  obtain ⟨u, _, rfl⟩ := hv
  exact ⟨wi_lo u 1000 (by omega), wi_hi u 1000 (by omega)⟩
theorem wl_succ (vs : List Int) (k : Nat) (hk : k < vs.length) (h40 : k < 40) : (wl vs).take (k + 1) = (wl vs).take k ++ [wi (vs.getD k 0) 1000] := by
  have hl : k < (wl vs).length := by rw [wl_len]; omega
  rw [List.take_succ_eq_append_getElem hl]
  congr 2
  simp [wl, List.getD_eq_getElem?_getD, hk]

/-- what weights hands back -/
def WeightsPost (w : World) (vs : List Int) (e : Ending) (w' : World) : Prop :=
  ∃ v, e = .returned v ∧ w'.ownsRow w.heap.size 3 1 v (wl vs).length ((wl vs).map (Value.int .i64)) ∧ Mor w w'

set_option maxRecDepth 100000 in
set_option maxHeartbeats 3200000 in
theorem weights_any (A : Option Addr) (n cap : Nat) (vs : List Int) (w : World) (hr : Ri w A vs) (hn : vs.length = n) (hcap : n ≤ cap) (hmax : n ≤ maxLen) :
    Calls Try.prog 11 #[.slice A n cap] w (WeightsPost w vs) := by
  obtain ⟨i0, hi, hz0, hz1, hz2⟩ := info_parts info_int'
  unfold maxLen at hmax
  obtain ⟨m, hm⟩ : ∃ m, (wl vs).length = m := ⟨_, rfl⟩
  have hmn : m ≤ n := by rw [wl_len] at hm; omega
  have hm40 : m ≤ 40 := by rw [wl_len] at hm; omega
  have hcase : (n ≤ 40 ∧ m = n) ∨ (40 < n ∧ m = 40) := by rw [wl_len] at hm; omega
  have HR := Lib.hid (fun i (hi : i < n) => hr.at_ i (by omega))
  have HB := Lib.hid (fun i (hi : i < m) => show (wl vs).take (i + 1) = (wl vs).take i ++ [wi (vs.getD i 0) 1000] from wl_succ vs i (by omega) (by omega))
  have HM := Lib.hid hm
  have HRW := Lib.hid (fun W (hb : Below w.heap.size w W) => hr.below hb)
  have HN := Lib.hid hn
  clear hr hn hm HR
  have hif : (if (40 : Int) < (n : Int) then (40 : Int) else (n : Int)) = (m : Int) := by split <;> omega
  rcases hcase with ⟨c1, c2⟩ | ⟨c1, c2⟩
  all_goals
    go_enter Try.func11, Try.ntmps11
    go_wp2
    go_loopw [3, 12] (fun v i wr => ∃ k : Nat, k ≤ m ∧ i = .int .i64 k ∧ Hid (wr.ownsRow w.heap.size 3 1 v k (((wl vs).take k).map (Value.int .i64))) ∧ Hid (Below w.heap.size w wr)) (fun _ i _ => m - (intOf i).toNat)
    case atStart => exact ⟨0, Nat.zero_le _, rfl, Lib.hid (by simp; exact World.ownsRow_nil _ _ _ _), Lib.hid (Below.refl _ _)⟩
    case round =>
      obtain ⟨k, hk, rfl, HO, HX⟩ := hrel
      by_cases hlt : k < m
      · obtain ⟨x, hA, hxb, cv⟩ := (HRW.out _ HX.out).at_ k (by rw [HN.out]; omega)
        subst hA
        have hz : (0 : Int) ≤ (k : Int) := by omega
        have hki : (k : Int) < (m : Int) := by omega
        have hki2 : (k : Int) < (n : Int) := by omega
        have hki3 : (k : Int) < 40 := by omega
        have HS := Lib.hid (HB.out k hlt)
        generalize vs.getD k 0 = y at *
        have HW := Lib.hid (fun w => within_any y 1000 w (by omega) (by omega))
        generalize wi y 1000 = u at *
        go_wp2_with (first | (go_at_call 12; (with_reducible refine (HW.out _).mono ?_); rintro e w1 ⟨rfl, rfl⟩) | (at_builtin; refine wpList_append_own _ rfl _ _ 22 rfl w.heap.size 3 i0 (.int .i64 0) 1 8 Try.underlying22 hi hz0 hz1 hz2 rfl (by decide) _ _ _ rfl (HO.out.alloc _) ⟨wr.heap.size, 0, none⟩ 1 1 [.int .i64 u] rfl rfl ?_ ?_ ?_ ?_ ?_ ?_))
        · intro j u hj
          match j, hj with
          | 0, hj => simp at hj; subst hj; simp [Addr.add]
        · intro u hu; simp at hu; subst hu; rfl
        · unfold maxLen; omega
        · omega
        · have := HX.out.size; simp; omega
        · intro v' w1 hown' hgrow _
          have HO' := Lib.hid hown'
          have HX' := Lib.hid (own_stepS (m := 0) HO.out HX.out hgrow)
          clear hown' hgrow
          go_wp2
          go_roundw
          case rel => exact ⟨k + 1, by omega, by go_num, Lib.hid (by rw [HS.out, List.map_append, List.map_take]; exact HO'.out), HX'⟩
          case measure => simp [intOf]; omega
      · have e : k = m := by omega
        subst e
        have hki : ¬ ((k : Int) < (n : Int) ∧ (k : Int) < 40) := by omega
        have HFin := Lib.hid (show ∀ v, wr.ownsRow w.heap.size 3 1 v k (((wl vs).take k).map (Value.int .i64)) → WeightsPost w vs (.returned v) wr from fun v h => ⟨v, rfl, by
          rw [HM.out]
          rw [List.take_of_length_le (by rw [HM.out]; exact Nat.le_refl _)] at h
          exact h, Mor.of_below HX.out⟩)
        first
          | (have hki4 : (k : Int) = (n : Int) := by omega
             have hki5 : ¬ ((n : Int) < (n : Int)) := by omega
             have hki6 : k = n := by omega
             subst hki6
             go_wp2
             go_ret
             exact HFin.out _ HO.out)
          | (subst c2
             go_wp2
             go_ret
             exact HFin.out _ HO.out)

end Go.Proofs.Ytbjfmhncpfhdmaa
