/- The walks of slices.Equal, Index, Contains at items. -/
import Derived.Test.YtphkckonnogjmaaPayC
namespace Go.Proofs.Ytphkckonnogjmaa
open Go.ChangeShapes Go.WideShapes Go.ChangeAt Go.RowKit Stb
set_option linter.unusedVariables false

theorem Pi.cells {w : World} {A : Option Addr} {xs : List Pr} (h : Pi w A xs) (i : Nat) (hi : i < xs.length) :
    ∃ x, A = some x ∧ x.block < w.heap.size ∧ w.cell? (x.add (i * 2)) = some (.int .i64 (ge xs i).1) ∧ w.cell? ⟨(x.add (i * 2)).block, (x.add (i * 2)).off + 1, none⟩ = some (.int .i64 (ge xs i).2) := h.at_ i hi

set_option maxHeartbeats 1600000 in
theorem equal_it (A B : Option Addr) (n cap cap' : Nat) (xs : List Pr) (w : World) (hr : Pi w A xs) (hs : Pi w B xs) (hn : xs.length = n) (hl : n ≤ 1000) :
    Calls Try.prog 21 #[.slice A n cap, .slice B n cap'] w fun e w' => e = .returned (.bool true) ∧ Mor w w' := by
  have HR := Lib.hid hr
  have HS := Lib.hid hs
  have HN := Lib.hid hn
  clear hr hs hn
  go_enter Try.func21, Try.ntmps21
  go_wp2
  go_loopw [13] (fun i wr => ∃ k : Nat, k ≤ n ∧ i = .int .i64 k ∧ Hid (Mor w wr)) (fun i _ => n - (intOf i).toNat)
  case atStart => exact ⟨0, Nat.zero_le _, rfl, Lib.hid (Mor.refl _)⟩
  case round =>
    obtain ⟨k, hk, rfl, HM⟩ := hrel
    by_cases hlt : k < n
    · have hki : (k : Int) < (n : Int) := by omega
      have hk0 : (0 : Int) ≤ (k : Int) := by omega
      obtain ⟨x, hA, hxb, c1, c2⟩ := (HR.out.mor HM.out).cells k (by rw [HN.out]; exact hlt)
      obtain ⟨y, hB, hyb, d1, d2⟩ := (HS.out.mor HM.out).cells k (by rw [HN.out]; exact hlt)
      subst hA hB
      generalize (ge xs k).1 = u at *
      generalize (ge xs k).2 = v at *
      go_wp2
      go_quiet (fail)
      go_wp2
      go_roundw
      case rel => exact ⟨k + 1, by omega, by go_num, Lib.hid (by repeat (first | exact HM.out | apply Mor.alloc | apply Mor.more | apply Mor.drewN | apply Mor.drew))⟩
      case measure => simp [intOf]; omega
    · obtain rfl : k = n := by omega
      go_wp2
      go_ret
      exact ⟨rfl, HM.out⟩

set_option maxHeartbeats 1600000 in
theorem index_it (A : Option Addr) (n cap : Nat) (xs : List Pr) (p : Pr) (w : World) (hr : Pi w A xs) (hn : xs.length = n) (hl : n ≤ 1000) (hp : p ∈ xs) :
    Calls Try.prog 36 #[.slice A n cap, .agg #[.int .i64 p.1, .int .i64 p.2]] w fun e w' => (∃ k : Nat, e = .returned (.int .i64 k)) ∧ Mor w w' := by
  have HR := Lib.hid hr
  have HN := Lib.hid hn
  have HP := Lib.hid (show ∃ j, j < n ∧ ge xs j = p from by
    obtain ⟨j, hj, e⟩ := List.getElem_of_mem hp
    refine ⟨j, by omega, ?_⟩
    have := ge_some hj
    rw [List.getElem?_eq_getElem hj, e] at this
    injection this with this
    exact this.symm)
  clear hr hn hp
  obtain ⟨d, a⟩ := p
  go_enter Try.func36, Try.ntmps36
  go_wp2
  go_loopw [8] (fun i wr => ∃ k : Nat, k ≤ n ∧ i = .int .i64 k ∧ Hid (∀ j, j < k → ge xs j ≠ (d, a)) ∧ Hid (Blk wr w.heap.size 28 #[.int .i64 d, .int .i64 a]) ∧ Hid (Mor w wr)) (fun i _ => n - (intOf i).toNat)
  case atStart => exact ⟨0, Nat.zero_le _, rfl, Lib.hid (fun j hj => absurd hj (Nat.not_lt_zero _)), Lib.hid (Blk.new _ _ _), Lib.hid (Mor.refl _).alloc⟩
  case round =>
    obtain ⟨k, hk, rfl, HB, HV, HM⟩ := hrel
    have v1 : wr.cell? ⟨w.heap.size, 0, none⟩ = some (.int .i64 d) := by rw [HV.out.cell]; rfl
    have v2 : wr.cell? ⟨w.heap.size, 1, none⟩ = some (.int .i64 a) := by rw [HV.out.cell]; rfl
    by_cases hlt : k < n
    · have hki : (k : Int) < (n : Int) := by omega
      have hk0 : (0 : Int) ≤ (k : Int) := by omega
      obtain ⟨x, hA, hxb, c1, c2⟩ := (HR.out.mor HM.out).cells k (by rw [HN.out]; exact hlt)
      subst hA
      have HB' := Lib.hid (fun h : ge xs k ≠ (d, a) => show ∀ j, j < k + 1 → ge xs j ≠ (d, a) from fun j hj => by
        by_cases e : j = k
        · subst e; exact h
        · exact HB.out j (by omega))
      generalize ge xs k = u at *
      obtain ⟨u, v⟩ := u
      by_cases h1 : d = u
      · subst h1
        by_cases h2 : a = v
        · subst h2
          go_wp2
          go_quiet (fail)
          go_wp2
          go_ret
          exact ⟨⟨k, rfl⟩, by repeat (first | exact HM.out | apply Mor.alloc | apply Mor.more | apply Mor.drewN | apply Mor.drew)⟩
        · have h3 : (a == v) = false := by simpa using h2
          have HB2 := Lib.hid (HB'.out (by simpa using Ne.symm h2))
          go_wp2
          go_quiet (fail)
          go_wp2
          go_roundw
          case rel => exact ⟨k + 1, by omega, by go_num, HB2, Lib.hid (by repeat (first | exact HV.out | apply Blk.drew | apply Blk.drewN)), Lib.hid (by repeat (first | exact HM.out | apply Mor.alloc | apply Mor.more | apply Mor.drewN | apply Mor.drew))⟩
          case measure => simp [intOf]; omega
      · have h3 : (d == u) = false := by simpa using h1
        have HB2 := Lib.hid (HB'.out (by intro h; injection h with h _; exact h1 h.symm))
        go_wp2
        go_quiet (fail)
        go_wp2
        go_roundw
        case rel => exact ⟨k + 1, by omega, by go_num, HB2, Lib.hid (by repeat (first | exact HV.out | apply Blk.drew | apply Blk.drewN)), Lib.hid (by repeat (first | exact HM.out | apply Mor.alloc | apply Mor.more | apply Mor.drewN | apply Mor.drew))⟩
        case measure => simp [intOf]; omega
    · obtain rfl : k = n := by omega
      obtain ⟨j, hj, e⟩ := HP.out
      exact absurd e (HB.out j hj)

theorem contains_it (A : Option Addr) (n cap : Nat) (xs : List Pr) (p : Pr) (w : World) (hr : Pi w A xs) (hn : xs.length = n) (hl : n ≤ 1000) (hp : p ∈ xs) :
    Calls Try.prog 22 #[.slice A n cap, .agg #[.int .i64 p.1, .int .i64 p.2]] w fun e w' => e = .returned (.bool true) ∧ Mor w w' := by
  have HI := Lib.hid (fun w' (h : Mor w w') => index_it A n cap xs p w' (hr.mor h) hn hl hp)
  clear hr hn hp
  obtain ⟨d, a⟩ := p
  go_enter Try.func22, Try.ntmps22
  go_wp2_with (go_at_call 36; (with_reducible refine (HI.out _ (by repeat (first | exact Mor.refl _ | apply Mor.alloc | apply Mor.more | apply Mor.drewN | apply Mor.drew))).mono ?_); rintro e w1 ⟨⟨k, rfl⟩, hM⟩)
  go_ret
  exact ⟨by simp, ((Mor.refl _).alloc).trans' hM⟩

end Go.Proofs.Ytphkckonnogjmaa
