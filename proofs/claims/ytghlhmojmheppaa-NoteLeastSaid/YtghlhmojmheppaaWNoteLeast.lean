/- The walk of talkeep.NoteLeast. -/
import Derived.Test.YtghlhmojmheppaaNoteC
namespace Go.Proofs.Ytghlhmojmheppaa.noteLeast
open Go.ChangeShapes Go.WideShapes Go.ChangeAt Go.RowKit
set_option linter.unusedVariables false

theorem beg {p : Int} (h : leastP 100 0 3 p) : p = 34 := by
  have := least_free 100 p 3 (by omega) (by omega) h
  omega
theorem okp_end {o r p : Int} {n : Nat} (hp : 0 ≤ p) (h : okp o r n p) : nl o r p n = 0 := by
  rcases h with e | ⟨_, e⟩
  · subst e; exact nl_zero 0 r p hp 0 rfl n (by omega)
  · exact e

set_option maxRecDepth 100000 in
set_option maxHeartbeats 3200000 in
theorem noteLeast_walk (w : World) (o : Int) (wo : (Lit.int .i64 o).wf = true) (r : Int) (wr : (Lit.int .i64 r).wf = true) (n : Int) (wn : (Lit.int .i64 n).wf = true) :
    Calls Try.prog 10 #[.int .i64 o, .int .i64 r, .int .i64 n] w fun e w' => e = .returned (.bool true) ∧ Below w.heap.size w w' := by
  have HB := Lib.hid (fun w => Least_int 100 0 3 3 w rfl ⟨by omega, by omega, by omega, by omega⟩ (by omega) (by omega))
  by_cases h : loanP o r ∧ 1 ≤ n ∧ n ≤ 40
  · obtain ⟨hl, h1, h2⟩ := h
    obtain ⟨N, rfl⟩ := Int.eq_ofNat_of_zero_le (show 0 ≤ n by omega)
    have HC := Lib.hid (fun w => Least_ok o r N w hl (by omega) (by omega))
    have HG := Lib.hid (fun p (hp1 : 1 ≤ p) (hp2 : p ≤ 2000000000000) (hok : okp o r N p) w => Rows_good o r p w ⟨hl, hp1, hp2⟩ (okp_mono o o r r p p 40 N hl.1 (Int.le_refl _) hl.2.2.1 (Int.le_refl _) (Int.le_refl _) (by omega) (by omega) hok))
    have HD := Lib.hid (fun p (hp1 : 1 ≤ p) (hp2 : p ≤ 2000000000000) w => show Calls Try.prog 24 #[.int .i64 o, .int .i64 r, .int .i64 p] w fun e w' => (okp o r 40 p ∧ RowsGood w o r p e w') ∨ RowsBad w 7 e w' ∨ RowsBad w 2 e w' from by
      by_cases hk : okp o r 40 p
      · exact (Rows_good o r p w ⟨hl, hp1, hp2⟩ hk).mono fun _ _ h => .inl ⟨hk, h⟩
      · have hb := Rows_bad o r p w (fun h => hk h.2)
        by_cases hn : p ≤ nint o r
        · rw [show rcode o r p = 7 by unfold rcode; rw [if_pos ⟨hl, hp1, hp2⟩, if_pos hn]] at hb
          exact hb.mono fun _ _ h => .inr (.inl h)
        · rw [show rcode o r p = 2 by unfold rcode; rw [if_pos ⟨hl, hp1, hp2⟩, if_neg hn]] at hb
          exact hb.mono fun _ _ h => .inr (.inr h))
    clear hl
    go_enter Try.func10, Try.ntmps10
    go_wp2_with fail
    refine (HB.out _).mono ?_
    rintro e w1 ⟨p0, rfl, ⟨bs, k, rfl⟩, hp0⟩
    obtain rfl := beg hp0
    clear hp0 HB
    go_wp2_with fail
    refine (HC.out _).mono ?_
    rintro e w1 ⟨p, rfl, ⟨bs1, k1, rfl⟩, hp1, hp2, hp3, hp4⟩
    have HG' := Lib.hid (fun w => HG.out p hp1 hp2 hp3 w)
    have he := okp_end (by omega) hp3
    have HE := Lib.hid he
    have H4 := Lib.hid hp4
    clear HG hp3 he hp4
    go_wp2_with fail
    refine (HG'.out _).mono ?_
    rintro e w1 ⟨T, A, c, bs2, k2, rfl, rfl, ⟨hT, _⟩, t40, hc, hr⟩
    have tn : T ≤ N := (hT.end_ (by omega) (by omega)).2 HE.out
    clear hT hr
    by_cases hp : p = 1
    · subst hp
      go_wp2_with fail
      go_ret
      exact ⟨ret_b (by first | rfl | (simp; done) | (simp; omega)), (Mor.below (by repeat (first | exact Mor.refl _ | apply Mor.alloc | apply Mor.more | apply Mor.drewN | apply Mor.drew)))⟩
    · have hp5 : 2 ≤ p := by omega
      have pne : (p == 1) = false := by simp; omega
      have HD' := Lib.hid (fun w => HD.out (p - 1) (by omega) (by omega) w)
      clear hp HD
      go_wp2_with fail
      refine (HD'.out _).mono ?_
      rintro e w1 (⟨hk, T2, A2, c2, bs3, k3, rfl, rfl, ⟨hT2, _⟩, t402, hc2, hr2⟩ | ⟨bs3, k3, rfl, rfl⟩ | ⟨bs3, k3, rfl, rfl⟩)
      · have tgt : N < T2 := by
          rcases Nat.lt_or_ge N T2 with a | a
          · exact a
          · rcases H4.out with b | b
            · omega
            · have e2 := (hT2.end_ (by omega) (by omega)).1 a
              by_cases hz : o = 0
              · exact absurd (.inl hz) b
              · rcases hk with hk | ⟨hk, _⟩
                · exact absurd hk hz
                · exact absurd (.inr ⟨hk, e2⟩) b
        clear hT2 hr2 hk
        go_wp2_with fail
        go_ret
        exact ⟨ret_b (by first | rfl | (simp; done) | (simp; omega)), (Mor.below (by repeat (first | exact Mor.refl _ | apply Mor.alloc | apply Mor.more | apply Mor.drewN | apply Mor.drew)))⟩
      · go_wp2_with fail
        go_ret
        exact ⟨ret_b (by first | rfl | (simp; done) | (simp; omega)), (Mor.below (by repeat (first | exact Mor.refl _ | apply Mor.alloc | apply Mor.more | apply Mor.drewN | apply Mor.drew)))⟩
      · go_wp2_with fail
        go_ret
        exact ⟨ret_b (by first | rfl | (simp; done) | (simp; omega)), (Mor.below (by repeat (first | exact Mor.refl _ | apply Mor.alloc | apply Mor.more | apply Mor.drewN | apply Mor.drew)))⟩
  · have HC := Lib.hid (fun w => Least_no o r n w h)
    clear h
    go_enter Try.func10, Try.ntmps10
    go_wp2_with fail
    refine (HB.out _).mono ?_
    rintro e w1 ⟨p0, rfl, ⟨bs, k, rfl⟩, hp0⟩
    obtain rfl := beg hp0
    clear hp0
    go_wp2_with fail
    refine (HC.out _).mono ?_
    rintro e w1 ⟨rfl, bs1, k1, rfl⟩
    go_wp2_with fail
    go_ret
    exact ⟨ret_b (by first | rfl | (simp; done) | (simp; omega)), (Mor.below (by repeat (first | exact Mor.refl _ | apply Mor.alloc | apply Mor.more | apply Mor.drewN | apply Mor.drew)))⟩

end Go.Proofs.Ytghlhmojmheppaa.noteLeast
