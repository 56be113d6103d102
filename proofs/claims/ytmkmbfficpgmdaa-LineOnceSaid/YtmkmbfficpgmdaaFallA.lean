/- The walk of fall.Falling: what it computes. -/
import Derived.Test.YtmkmbfficpgmdaaPlainW
import Derived.Test.YtmkmbfficpgmdaaFracA
import Derived.Test.YtmkmbfficpgmdaaOwn
namespace Go.Proofs.Ytmkmbfficpgmdaa
open Go.ChangeShapes Go.WideShapes Go.ChangeAt Go.RowKit
set_option linter.unusedVariables false

theorem info_int : (Try.prog.info? 3).map (fun i => (i.zero, i.size, i.bytes)) = some (some (.int .i64 0), 1, 8) := by kernel_rfl

set_option maxHeartbeats 400000 in
theorem look_ok (cost rest n : Int) (w : World) (h1 : 0 ≤ cost) (h2 : cost ≤ 1000000000000) (h3 : 0 ≤ rest) (h4 : rest ≤ cost) (h5 : 1 ≤ n) (h6 : n ≤ 40) :
    Calls Try.prog 35 #[.int .i64 cost, .int .i64 rest, .int .i64 n] w fun e w' => e = .returned (.int .i64 0) ∧ w = w' := by
  go_enter Try.func35, Try.ntmps35
  go_wp2
  all_goals go_ret
  all_goals exact ⟨rfl, rfl⟩

theorem vi {k : IntKind} {a b : Int} (h : a = b) : Value.int k a = Value.int k b := by rw [h]

/-- what fall.Falling hands back -/
def FallPost (w : World) (xs : List Int) (N : Nat) (e : Ending) (w' : World) : Prop :=
  ∃ bs k b c, e = .returned (.tuple #[.slice (some ⟨b, 0, none⟩) N c, .int .i64 0]) ∧ w' = more w bs k ∧ xs.length = N ∧ N ≤ c ∧ Row (more w bs k) b 0 xs

set_option maxHeartbeats 6400000 in
theorem falling_ok (cost rest rate : Int) (N : Nat) (w : World) (h1 : 0 ≤ cost) (h2 : cost ≤ 1000000000000) (h3 : 0 ≤ rest) (h4 : rest ≤ cost) (h5 : 0 ≤ rate) (h6 : rate ≤ 1000000) (h7 : 1 ≤ N) (h8 : N ≤ 40) :
    Calls Try.prog 27 #[.int .i64 cost, .int .i64 rest, .int .i64 rate, .int .i64 (N : Int)] w (FallPost w (flist cost rest rate N N) N) := by
  obtain ⟨i0, hi, hz0, hz1, hz2⟩ := info_parts info_int
  go_enter Try.func27, Try.ntmps27
  go_wp2_with (first | (go_at_call 35; refine (look_ok _ _ _ _ h1 h2 h3 h4 (by omega) (by omega)).mono ?_; rintro e w1 ⟨rfl, rfl⟩))
  go_loopw [3, 11, 12] (fun n l v wr => ∃ k : Nat, k ≤ N ∧ n = .int .i64 ((N : Int) - k) ∧ l = .int .i64 (fleft cost rest rate N k) ∧ wr.ownsRow w.heap.size 3 1 v k ((flist cost rest rate N k).map (Value.int .i64)) ∧ Below w.heap.size w wr) (fun n _ _ _ => (intOf n).toNat)
  case atStart => exact ⟨0, Nat.zero_le _, by simp, rfl, World.ownsRow_nil _ _ _ _, Below.refl _ _⟩
  case round =>
    obtain ⟨k, hk, rfl, rfl, hown, hnx⟩ := hrel
    by_cases hlt : k < N
    · obtain ⟨l1, l2⟩ := fleft_bd cost rest rate N h4 h3 h5 k (by omega)
      obtain ⟨d1, d2⟩ := dstep_bd (fleft cost rest rate N k) rest rate ((N : Int) - k) l1 h3 h5 (by omega)
      have E := Lib.hid (show min (max (rnd (fleft cost rest rate N k * rate) 1000000 2) (rnd (fleft cost rest rate N k - rest) ((N : Int) - k) 1)) (fleft cost rest rate N k - rest) = fdd cost rest rate N k from rfl)
      have ES := Lib.hid (flist_succ cost rest rate N k)
      have EL := Lib.hid (fleft_succ cost rest rate N k)
      obtain ⟨p1, p2⟩ := prod_bd (fleft cost rest rate N k) rate 1000000000000 1000000 (by omega) (by omega) h5 h6 (by omega)
      obtain ⟨s1, s2⟩ := rnd_share (fleft cost rest rate N k) rate 2 (by omega) h5 h6
      have u1 := le_rnd (fleft cost rest rate N k - rest) ((N : Int) - k) 1 0 (by omega) (by omega)
      have u2 := rnd_le (fleft cost rest rate N k - rest) ((N : Int) - k) 1 1000000000000 (by omega) (by have := Int.mul_le_mul_of_nonneg_right (show (1 : Int) ≤ (N : Int) - k by omega) (show (0:Int) ≤ 1000000000000 by omega); omega)
      have HA := Lib.hid (fun w => rounded_any (fleft cost rest rate N k * rate) 1000000 2 w (by omega) (by omega) (by omega) (by omega))
      have HB := Lib.hid (fun w => rounded_any (fleft cost rest rate N k - rest) ((N : Int) - k) 1 w (by omega) (by omega) (by omega) (by omega))
      have HO := Lib.hid hown
      have HX := Lib.hid hnx
      clear d1 d2 hown hnx
      generalize rnd (fleft cost rest rate N k * rate) 1000000 2 = a at *
      generalize rnd (fleft cost rest rate N k - rest) ((N : Int) - k) 1 = b at *
      generalize fdd cost rest rate N k = d at *
      generalize fleft cost rest rate N k = L at *
      rcases Int.lt_trichotomy a b with h | h | h
      · rcases Int.lt_trichotomy b (L - rest) with g | g | g
        · skip
          have e : d = b := by have := E.out; omega
          have HE := Lib.hid e
          clear e
          go_wp2_with (first | (go_at_call 38; (with_reducible refine (HA.out _).mono ?_); rintro e w1 ⟨rfl, m, rfl⟩) | (go_at_call 38; (with_reducible refine (HB.out _).mono ?_); rintro e w1 ⟨rfl, m, rfl⟩) | (at_builtin; refine wpList_append_own _ rfl _ _ 22 rfl w.heap.size 3 i0 (.int .i64 0) 1 8 Try.underlying22 hi hz0 hz1 hz2 rfl (by decide) _ _ _ rfl (by exact own_drewN (HO.out.alloc _)) ⟨wr.heap.size, 0, none⟩ 1 1 [.int .i64 (b)] rfl rfl ?_ ?_ ?_ ?_ ?_ ?_))
          · intro j u hj
            match j, hj with
            | 0, hj => simp at hj; subst hj; simp [Addr.add]
          · intro u hu; simp at hu; subst hu; rfl
          · unfold maxLen; omega
          · omega
          · have := HX.out.size; simp; omega
          · intro v' w1 hown' hgrow _
            have HO' := Lib.hid hown'
            have HX' := Lib.hid (own_step HO.out HX.out hgrow)
            clear hown' hgrow
            go_wp2
            go_roundw
            case rel => exact ⟨k + 1, by omega, vi (by omega), vi (by rw [EL.out, HE.out]), by rw [ES.out, List.map_append, HE.out]; exact HO'.out, HX'.out⟩
            case measure => simp [intOf]; omega
        · have g1 : b ≤ L - rest := by omega
          have g2 : L - rest ≤ b := by omega
          clear g
          have e : d = b := by have := E.out; omega
          have HE := Lib.hid e
          clear e
          go_wp2_with (first | (go_at_call 38; (with_reducible refine (HA.out _).mono ?_); rintro e w1 ⟨rfl, m, rfl⟩) | (go_at_call 38; (with_reducible refine (HB.out _).mono ?_); rintro e w1 ⟨rfl, m, rfl⟩) | (at_builtin; refine wpList_append_own _ rfl _ _ 22 rfl w.heap.size 3 i0 (.int .i64 0) 1 8 Try.underlying22 hi hz0 hz1 hz2 rfl (by decide) _ _ _ rfl (by exact own_drewN (HO.out.alloc _)) ⟨wr.heap.size, 0, none⟩ 1 1 [.int .i64 (b)] rfl rfl ?_ ?_ ?_ ?_ ?_ ?_))
          · intro j u hj
            match j, hj with
            | 0, hj => simp at hj; subst hj; simp [Addr.add]
          · intro u hu; simp at hu; subst hu; rfl
          · unfold maxLen; omega
          · omega
          · have := HX.out.size; simp; omega
          · intro v' w1 hown' hgrow _
            have HO' := Lib.hid hown'
            have HX' := Lib.hid (own_step HO.out HX.out hgrow)
            clear hown' hgrow
            go_wp2
            go_roundw
            case rel => exact ⟨k + 1, by omega, vi (by omega), vi (by rw [EL.out, HE.out]), by rw [ES.out, List.map_append, HE.out]; exact HO'.out, HX'.out⟩
            case measure => simp [intOf]; omega
        · skip
          have e : d = L - rest := by have := E.out; omega
          have HE := Lib.hid e
          clear e
          go_wp2_with (first | (go_at_call 38; (with_reducible refine (HA.out _).mono ?_); rintro e w1 ⟨rfl, m, rfl⟩) | (go_at_call 38; (with_reducible refine (HB.out _).mono ?_); rintro e w1 ⟨rfl, m, rfl⟩) | (at_builtin; refine wpList_append_own _ rfl _ _ 22 rfl w.heap.size 3 i0 (.int .i64 0) 1 8 Try.underlying22 hi hz0 hz1 hz2 rfl (by decide) _ _ _ rfl (by exact own_drewN (HO.out.alloc _)) ⟨wr.heap.size, 0, none⟩ 1 1 [.int .i64 (L - rest)] rfl rfl ?_ ?_ ?_ ?_ ?_ ?_))
          · intro j u hj
            match j, hj with
            | 0, hj => simp at hj; subst hj; simp [Addr.add]
          · intro u hu; simp at hu; subst hu; rfl
          · unfold maxLen; omega
          · omega
          · have := HX.out.size; simp; omega
          · intro v' w1 hown' hgrow _
            have HO' := Lib.hid hown'
            have HX' := Lib.hid (own_step HO.out HX.out hgrow)
            clear hown' hgrow
            go_wp2
            go_roundw
            case rel => exact ⟨k + 1, by omega, vi (by omega), vi (by rw [EL.out, HE.out]), by rw [ES.out, List.map_append, HE.out]; exact HO'.out, HX'.out⟩
            case measure => simp [intOf]; omega
      · subst h
        rcases Int.lt_trichotomy a (L - rest) with g | g | g
        · skip
          have e : d = a := by have := E.out; omega
          have HE := Lib.hid e
          clear e
          go_wp2_with (first | (go_at_call 38; (with_reducible refine (HA.out _).mono ?_); rintro e w1 ⟨rfl, m, rfl⟩) | (go_at_call 38; (with_reducible refine (HB.out _).mono ?_); rintro e w1 ⟨rfl, m, rfl⟩) | (at_builtin; refine wpList_append_own _ rfl _ _ 22 rfl w.heap.size 3 i0 (.int .i64 0) 1 8 Try.underlying22 hi hz0 hz1 hz2 rfl (by decide) _ _ _ rfl (by exact own_drewN (HO.out.alloc _)) ⟨wr.heap.size, 0, none⟩ 1 1 [.int .i64 (a)] rfl rfl ?_ ?_ ?_ ?_ ?_ ?_))
          · intro j u hj
            match j, hj with
            | 0, hj => simp at hj; subst hj; simp [Addr.add]
          · intro u hu; simp at hu; subst hu; rfl
          · unfold maxLen; omega
          · omega
          · have := HX.out.size; simp; omega
          · intro v' w1 hown' hgrow _
            have HO' := Lib.hid hown'
            have HX' := Lib.hid (own_step HO.out HX.out hgrow)
            clear hown' hgrow
            go_wp2
            go_roundw
            case rel => exact ⟨k + 1, by omega, vi (by omega), vi (by rw [EL.out, HE.out]), by rw [ES.out, List.map_append, HE.out]; exact HO'.out, HX'.out⟩
            case measure => simp [intOf]; omega
        · have g1 : a ≤ L - rest := by omega
          have g2 : L - rest ≤ a := by omega
          clear g
          have e : d = a := by have := E.out; omega
          have HE := Lib.hid e
          clear e
          go_wp2_with (first | (go_at_call 38; (with_reducible refine (HA.out _).mono ?_); rintro e w1 ⟨rfl, m, rfl⟩) | (go_at_call 38; (with_reducible refine (HB.out _).mono ?_); rintro e w1 ⟨rfl, m, rfl⟩) | (at_builtin; refine wpList_append_own _ rfl _ _ 22 rfl w.heap.size 3 i0 (.int .i64 0) 1 8 Try.underlying22 hi hz0 hz1 hz2 rfl (by decide) _ _ _ rfl (by exact own_drewN (HO.out.alloc _)) ⟨wr.heap.size, 0, none⟩ 1 1 [.int .i64 (a)] rfl rfl ?_ ?_ ?_ ?_ ?_ ?_))
          · intro j u hj
            match j, hj with
            | 0, hj => simp at hj; subst hj; simp [Addr.add]
          · intro u hu; simp at hu; subst hu; rfl
          · unfold maxLen; omega
          · omega
          · have := HX.out.size; simp; omega
          · intro v' w1 hown' hgrow _
            have HO' := Lib.hid hown'
            have HX' := Lib.hid (own_step HO.out HX.out hgrow)
            clear hown' hgrow
            go_wp2
            go_roundw
            case rel => exact ⟨k + 1, by omega, vi (by omega), vi (by rw [EL.out, HE.out]), by rw [ES.out, List.map_append, HE.out]; exact HO'.out, HX'.out⟩
            case measure => simp [intOf]; omega
        · skip
          have e : d = L - rest := by have := E.out; omega
          have HE := Lib.hid e
          clear e
          go_wp2_with (first | (go_at_call 38; (with_reducible refine (HA.out _).mono ?_); rintro e w1 ⟨rfl, m, rfl⟩) | (go_at_call 38; (with_reducible refine (HB.out _).mono ?_); rintro e w1 ⟨rfl, m, rfl⟩) | (at_builtin; refine wpList_append_own _ rfl _ _ 22 rfl w.heap.size 3 i0 (.int .i64 0) 1 8 Try.underlying22 hi hz0 hz1 hz2 rfl (by decide) _ _ _ rfl (by exact own_drewN (HO.out.alloc _)) ⟨wr.heap.size, 0, none⟩ 1 1 [.int .i64 (L - rest)] rfl rfl ?_ ?_ ?_ ?_ ?_ ?_))
          · intro j u hj
            match j, hj with
            | 0, hj => simp at hj; subst hj; simp [Addr.add]
          · intro u hu; simp at hu; subst hu; rfl
          · unfold maxLen; omega
          · omega
          · have := HX.out.size; simp; omega
          · intro v' w1 hown' hgrow _
            have HO' := Lib.hid hown'
            have HX' := Lib.hid (own_step HO.out HX.out hgrow)
            clear hown' hgrow
            go_wp2
            go_roundw
            case rel => exact ⟨k + 1, by omega, vi (by omega), vi (by rw [EL.out, HE.out]), by rw [ES.out, List.map_append, HE.out]; exact HO'.out, HX'.out⟩
            case measure => simp [intOf]; omega
      · rcases Int.lt_trichotomy a (L - rest) with g | g | g
        · skip
          have e : d = a := by have := E.out; omega
          have HE := Lib.hid e
          clear e
          go_wp2_with (first | (go_at_call 38; (with_reducible refine (HA.out _).mono ?_); rintro e w1 ⟨rfl, m, rfl⟩) | (go_at_call 38; (with_reducible refine (HB.out _).mono ?_); rintro e w1 ⟨rfl, m, rfl⟩) | (at_builtin; refine wpList_append_own _ rfl _ _ 22 rfl w.heap.size 3 i0 (.int .i64 0) 1 8 Try.underlying22 hi hz0 hz1 hz2 rfl (by decide) _ _ _ rfl (by exact own_drewN (HO.out.alloc _)) ⟨wr.heap.size, 0, none⟩ 1 1 [.int .i64 (a)] rfl rfl ?_ ?_ ?_ ?_ ?_ ?_))
          · intro j u hj
            match j, hj with
            | 0, hj => simp at hj; subst hj; simp [Addr.add]
          · intro u hu; simp at hu; subst hu; rfl
          · unfold maxLen; omega
          · omega
          · have := HX.out.size; simp; omega
          · intro v' w1 hown' hgrow _
            have HO' := Lib.hid hown'
            have HX' := Lib.hid (own_step HO.out HX.out hgrow)
            clear hown' hgrow
            go_wp2
            go_roundw
            case rel => exact ⟨k + 1, by omega, vi (by omega), vi (by rw [EL.out, HE.out]), by rw [ES.out, List.map_append, HE.out]; exact HO'.out, HX'.out⟩
            case measure => simp [intOf]; omega
        · have g1 : a ≤ L - rest := by omega
          have g2 : L - rest ≤ a := by omega
          clear g
          have e : d = a := by have := E.out; omega
          have HE := Lib.hid e
          clear e
          go_wp2_with (first | (go_at_call 38; (with_reducible refine (HA.out _).mono ?_); rintro e w1 ⟨rfl, m, rfl⟩) | (go_at_call 38; (with_reducible refine (HB.out _).mono ?_); rintro e w1 ⟨rfl, m, rfl⟩) | (at_builtin; refine wpList_append_own _ rfl _ _ 22 rfl w.heap.size 3 i0 (.int .i64 0) 1 8 Try.underlying22 hi hz0 hz1 hz2 rfl (by decide) _ _ _ rfl (by exact own_drewN (HO.out.alloc _)) ⟨wr.heap.size, 0, none⟩ 1 1 [.int .i64 (a)] rfl rfl ?_ ?_ ?_ ?_ ?_ ?_))
          · intro j u hj
            match j, hj with
            | 0, hj => simp at hj; subst hj; simp [Addr.add]
          · intro u hu; simp at hu; subst hu; rfl
          · unfold maxLen; omega
          · omega
          · have := HX.out.size; simp; omega
          · intro v' w1 hown' hgrow _
            have HO' := Lib.hid hown'
            have HX' := Lib.hid (own_step HO.out HX.out hgrow)
            clear hown' hgrow
            go_wp2
            go_roundw
            case rel => exact ⟨k + 1, by omega, vi (by omega), vi (by rw [EL.out, HE.out]), by rw [ES.out, List.map_append, HE.out]; exact HO'.out, HX'.out⟩
            case measure => simp [intOf]; omega
        · skip
          have e : d = L - rest := by have := E.out; omega
          have HE := Lib.hid e
          clear e
          go_wp2_with (first | (go_at_call 38; (with_reducible refine (HA.out _).mono ?_); rintro e w1 ⟨rfl, m, rfl⟩) | (go_at_call 38; (with_reducible refine (HB.out _).mono ?_); rintro e w1 ⟨rfl, m, rfl⟩) | (at_builtin; refine wpList_append_own _ rfl _ _ 22 rfl w.heap.size 3 i0 (.int .i64 0) 1 8 Try.underlying22 hi hz0 hz1 hz2 rfl (by decide) _ _ _ rfl (by exact own_drewN (HO.out.alloc _)) ⟨wr.heap.size, 0, none⟩ 1 1 [.int .i64 (L - rest)] rfl rfl ?_ ?_ ?_ ?_ ?_ ?_))
          · intro j u hj
            match j, hj with
            | 0, hj => simp at hj; subst hj; simp [Addr.add]
          · intro u hu; simp at hu; subst hu; rfl
          · unfold maxLen; omega
          · omega
          · have := HX.out.size; simp; omega
          · intro v' w1 hown' hgrow _
            have HO' := Lib.hid hown'
            have HX' := Lib.hid (own_step HO.out HX.out hgrow)
            clear hown' hgrow
            go_wp2
            go_roundw
            case rel => exact ⟨k + 1, by omega, vi (by omega), vi (by rw [EL.out, HE.out]), by rw [ES.out, List.map_append, HE.out]; exact HO'.out, HX'.out⟩
            case measure => simp [intOf]; omega
    · have e : k = N := by omega
      subst e
      obtain ⟨b, c, rfl, hb, hl, hcap, hr⟩ := own_row hown h7
      obtain ⟨bs, hw⟩ := more_of_below hnx
      have HW := Lib.hid hw
      have HR := Lib.hid hr
      have HL := Lib.hid hl
      clear hw hr hl hown hnx
      go_wp2
      go_returns
      exact ⟨bs, _, b, c, rfl, HW.out, HL.out, hcap, by rw [← HW.out]; exact HR.out⟩

end Go.Proofs.Ytmkmbfficpgmdaa
