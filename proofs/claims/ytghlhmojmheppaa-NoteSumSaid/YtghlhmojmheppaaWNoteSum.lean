/- The walk of talkeep.NoteSum. -/
import Derived.Test.YtghlhmojmheppaaNoteC
namespace Go.Proofs.Ytghlhmojmheppaa.noteSum
open Go.ChangeShapes Go.WideShapes Go.ChangeAt Go.RowKit
set_option linter.unusedVariables false

def trip (t : Int × Int × Int) : List Value := [.int .i64 t.1, .int .i64 t.2.1, .int .i64 t.2.2]
theorem trip_len (t : Int × Int × Int) : (trip t).length = 3 := rfl

set_option maxRecDepth 100000 in
set_option maxHeartbeats 1600000 in
theorem equal_rows (A A' : Option Addr) (n c c' : Nat) (xs : List (Int × Int × Int)) (w : World) (hr : Rd w A (flat trip xs)) (hr' : Rd w A' (flat trip xs)) (hn : xs.length = n) (hl : n ≤ 1000) :
    Calls Try.prog 26 #[.slice A n c, .slice A' n c'] w fun e w' => e = .returned (.bool true) ∧ ∃ k, w' = w.drewN k := by
  have HR := Lib.hid (fun k (hk : k < n) => Rd.field 3 trip_len hr k (by omega) (by omega))
  have HR' := Lib.hid (fun k (hk : k < n) => Rd.field 3 trip_len hr' k (by omega) (by omega))
  clear hr hr'
  go_enter Try.func26, Try.ntmps26
  go_wp2
  go_loopw [13] (fun i wr => ∃ k m : Nat, k ≤ n ∧ i = .int .i64 k ∧ wr = w.drewN m) (fun i _ => n - (intOf i).toNat)
  case atStart => exact ⟨0, 0, Nat.zero_le _, rfl, rfl⟩
  case round =>
    obtain ⟨k, m, hk, rfl, rfl⟩ := hrel
    by_cases hlt : k < n
    · obtain ⟨b, o, hA, hb, hc⟩ := HR.out k hlt
      obtain ⟨b', o', hA', hb', hc'⟩ := HR'.out k hlt
      subst hA hA'
      have c0 := hc 0 (by omega)
      have c1 := hc 1 (by omega)
      have c2 := hc 2 (by omega)
      have c0' := hc' 0 (by omega)
      have c1' := hc' 1 (by omega)
      have c2' := hc' 2 (by omega)
      simp [trip] at c0 c1 c2 c0' c1' c2'
      clear hc hc'
      generalize (xs[k]'(by omega)).1 = x0 at *
      generalize (xs[k]'(by omega)).2.1 = x1 at *
      generalize (xs[k]'(by omega)).2.2 = x2 at *
      have hi : ((k : Nat) : Int) < (n : Int) := by omega
      go_wp2
      go_quiet (fail)
      go_wp2
      go_roundw
      case rel => exact ⟨k + 1, _, by omega, by go_num, rfl⟩
      case measure => simp [intOf]; omega
    · have e : k = n := by omega
      subst e
      go_wp2
      go_ret
      exact ⟨rfl, _, rfl⟩

theorem beg0 : nl 100 100000 60 0 = 100 := rfl
theorem beg1 : nl 100 100000 60 1 = 50 := by decide
theorem beg2 : nl 100 100000 60 2 = 0 := by rw [nl_succ, beg1]; decide
theorem beg_ok : okp 100 100000 40 60 := .inr ⟨by decide, nl_zero 100 100000 60 (by omega) 2 beg2 40 (by omega)⟩
theorem beg_NT : NT 100 100000 60 2 := ⟨by omega, fun k hk => by
  match k, hk with
  | 0, _ => rw [beg0]; omega
  | 1, _ => rw [beg1]; omega, .inr beg2⟩
theorem beg_T {T : Nat} (h : NT 100 100000 60 T) : T = 2 := by
  have a := h.le beg_NT (fun k => Int.le_refl _)
  have b := beg_NT.le h (fun k => Int.le_refl _)
  omega
theorem beg_rows : nrows 100 100000 60 2 = flat trip [(10, 50, 50), (5, 50, 0)] := by
  show nrow 100 100000 60 0 ++ (nrow 100 100000 60 1 ++ []) = _
  unfold nrow
  rw [beg0, beg1, beg2]
  rfl

set_option maxRecDepth 100000 in
set_option maxHeartbeats 3200000 in
theorem noteSum_walk (w : World) (o : Int) (wo : (Lit.int .i64 o).wf = true) (r : Int) (wr : (Lit.int .i64 r).wf = true) (p : Int) (wp : (Lit.int .i64 p).wf = true) :
    Calls Try.prog 8 #[.int .i64 o, .int .i64 r, .int .i64 p] w fun e w' => e = .returned (.bool true) ∧ Below w.heap.size w w' := by
  have HB := Lib.hid (fun w => Rows_good 100 100000 60 w ⟨⟨by omega, by omega, by omega, by omega⟩, by omega, by omega⟩ beg_ok)
  by_cases h : rowsP o r p ∧ okp o r 40 p
  · have HC := Lib.hid (fun w => Rows_good o r p w h.1 h.2)
    obtain ⟨⟨⟨l1, l2, l3, l4⟩, hp1, hp2⟩, ho⟩ := h
    have HO := Lib.hid ho
    clear ho
    go_enter Try.func8, Try.ntmps8
    go_wp2_with fail
    refine (HB.out _).mono ?_
    rintro e w1 ⟨T0, A0, c0, bs, k, rfl, rfl, ⟨hT, _⟩, h40, hc0, hr⟩
    obtain rfl := beg_T hT
    rw [beg_rows] at hr
    have HR := Lib.hid hr
    clear hT hr
    go_wp2_with (first | (go_at_call 26; (refine (equal_rows _ _ 2 _ _ [(10, 50, 50), (5, 50, 0)] _ (HR.out.alloc) (Rd.new _ (by simp) rfl) rfl (by omega)).mono ?_); rintro e w1 ⟨rfl, m, rfl⟩))
    clear HR
    refine (HC.out _).mono ?_
    rintro e w1 ⟨T, A, c, bs2, k2, rfl, rfl, ⟨hT, hle⟩, h40, hc, hr⟩
    simp [go_sem] at hr
    have hpos : ∀ k, k < T → 0 < nl o r p k := hT.2.1
    have hend : nl o r p T = 0 := by rcases hT.2.2 with e | e <;> omega
    have HE := Lib.hid hend
    have hnint : ∀ k, k < T → nint (nl o r p k) r < p := by
      intro k hk
      rcases HO.out with e | ⟨e, _⟩
      · have := hpos k hk; have := hle k; omega
      · exact (nl_step o r p l1 l3 l4 e k).2.1
    have HF := Lib.hid (fun W (hm : Rd W A (nrows o r p T)) k (hk : k < T) => Rd.field 3 (nrow_len o r p) hm k (by simpa using hk) (by omega))
    have HP := Lib.hid (fun k (hk : k < T) => show 0 < nl o r p k ∧ nl o r p k ≤ o ∧ nint (nl o r p k) r < p ∧ 0 ≤ nint (nl o r p k) r ∧ nint (nl o r p k) r ≤ nl o r p k ∧ (k + 1 < T → 0 < nl o r p (k + 1)) from
      ⟨hpos k hk, hle k, hnint k hk, (nint_bd _ r (nl_nonneg o r p l1 k) l3 l4).1, (nint_bd _ r (nl_nonneg o r p l1 k) l3 l4).2, fun h => hpos (k + 1) h⟩)
    have HR := Lib.hid hr
    clear hT hle hpos hend hnint hr
    go_wp2_with fail
    obtain ⟨W0, hW0⟩ : ∃ W0 : World, W0 = more ((more w bs k).alloc (.cells (flat trip [(10, 50, 50), (5, 50, 0)]).toArray 43)) bs2 k2 := ⟨_, rfl⟩
    have HRW := Lib.hid (show Rd W0 A (nrows o r p T) by rw [hW0]; exact HR.out)
    have HM0 := Lib.hid (show Mor w W0 by rw [hW0]; exact (((Mor.refl _).more).alloc).more)
    clear HR
    go_loopw [11, 43] (fun l i wr => ∃ k : Nat, k ≤ T ∧ i = .int .i64 k ∧ l = .int .i64 (nl o r p k) ∧ Hid (Mor W0 wr)) (fun _ i _ => T - (intOf i).toNat)
    case atStart => exact ⟨0, Nat.zero_le _, rfl, rfl, Lib.hid (by first | (rw [hW0]; exact Mor.refl _) | trace_state)⟩
    case round =>
      obtain ⟨k, hk, rfl, rfl, hm⟩ := hrel
      clear hW0
      by_cases hlt : k < T
      · obtain ⟨g1, g2, g3, g4, g5, g6⟩ := HP.out k hlt
        obtain ⟨b, off, hA, hb, hcell⟩ := HF.out _ (HRW.out.mor hm.out) k hlt
        have hM := nl_succ o r p k
        have hO : noff (nl o r p k) r p = min (p - nint (nl o r p k) r) (nl o r p k) := rfl
        subst hA
        have q0 := hcell 0 (by omega)
        have q1 := hcell 1 (by omega)
        have q2 := hcell 2 (by omega)
        simp [nrow] at q0 q1 q2
        have HK := Lib.hid hM
        rw [hM] at q2 g6
        clear hM hcell
        generalize noff (nl o r p k) r p = f at *
        generalize nint (nl o r p k) r = t at *
        generalize nl o r p k = L at *
        have f1 : 1 ≤ f := by omega
        have f2 : f ≤ L := by omega
        have f3 : t + f ≤ p := by omega
        by_cases hlast : k + 1 < T
        · have e1 : (t + f == p) = true := by have := g6 hlast; simp; omega
          have e2 : (t + f != p) = false := by have := g6 hlast; simp; omega
          have e3 : (k : Int) < (T : Int) - 1 := by omega
          clear g6 hO
          go_wp2_with fail
          go_roundw
          case rel => exact ⟨k + 1, by omega, by go_num, by rw [HK.out], Lib.hid (hm.out.alloc)⟩
          case measure => simp [intOf]; omega
        · have e3 : (T : Int) - 1 ≤ (k : Int) := by omega
          clear g6 hO hlast
          go_wp2_with fail
          go_roundw
          case rel => exact ⟨k + 1, by omega, by go_num, by rw [HK.out], Lib.hid (hm.out.alloc)⟩
          case measure => simp [intOf]; omega
      · have e : k = T := by omega
        subst e
        have hz := HE.out
        rw [hz]
        clear hz
        have HFin := Lib.hid (show Mor w wr by obtain ⟨b1, n1, e1⟩ := hm.out; rw [e1]; exact HM0.out.more)
        go_wp2_with fail
        go_ret
        exact ⟨rfl, HFin.out.below⟩
  · have HC := Lib.hid (fun w => Rows_bad o r p w h)
    have hc : rcode o r p ≠ 0 := rcode_ne o r p
    generalize rcode o r p = c at *
    clear h
    go_enter Try.func8, Try.ntmps8
    go_wp2_with fail
    refine (HB.out _).mono ?_
    rintro e w1 ⟨T0, A0, c0, bs, k, rfl, rfl, ⟨hT, _⟩, h40, hc0, hr⟩
    obtain rfl := beg_T hT
    rw [beg_rows] at hr
    have HR := Lib.hid hr
    clear hT hr
    go_wp2_with (first | (go_at_call 26; (refine (equal_rows _ _ 2 _ _ [(10, 50, 50), (5, 50, 0)] _ (HR.out.alloc) (Rd.new _ (by simp) rfl) rfl (by omega)).mono ?_); rintro e w1 ⟨rfl, m, rfl⟩))
    clear HR
    refine (HC.out _).mono ?_
    rintro e w1 ⟨bs2, k2, rfl, rfl⟩
    go_wp2_with fail
    go_ret
    exact ⟨ret_b (by first | rfl | (simp; done) | (simp; omega)), (Mor.below (by repeat (first | exact Mor.refl _ | apply Mor.alloc | apply Mor.more | apply Mor.drewN | apply Mor.drew)))⟩

end Go.Proofs.Ytghlhmojmheppaa.noteSum
