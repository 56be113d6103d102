/- The walk of stock.Mean. -/
import Derived.Test.YtahegjhjonodlaaDoorPItemsOwnZ1
import Derived.Test.YtahegjhjonodlaaDoorPItemsOwnZ2
import Derived.Test.YtahegjhjonodlaaDoorPItemsOwnZ3
import Derived.Test.YtahegjhjonodlaaDoorPItemsOwnZ4
import Derived.Test.YtahegjhjonodlaaDoorPItemsOwnZ5
import Derived.Test.YtahegjhjonodlaaDoorPItemsOwnZ6
import Derived.Test.YtahegjhjonodlaaDoorPItemsOwnZ7
import Derived.Test.YtahegjhjonodlaaDoorPItemsOwnZ8
import Derived.Test.YtahegjhjonodlaaDoorPItemsOwnZ9
import Derived.Test.YtahegjhjonodlaaDoorPItemsOwnZ10
import Derived.Test.YtahegjhjonodlaaDoorPItemsOwnZ11
import Derived.Test.YtahegjhjonodlaaDoorRows
import Derived.ArgAppend
import Derived.BigQuiet
import Derived.BigRegion
import Derived.DataElems
import Derived.Deep.OwnRows
import Derived.Deep.QuietTactic
import Derived.Deep.SlicePairs
import Derived.Handy
import Derived.Laws.AppendOwn
import Derived.Lib.Hide
import Derived.OpenShut
import Derived.Outline
import Derived.OwnWalk
import Derived.ProofKit
import Derived.RegionTactic
import Derived.WalkKit
import Derived.WalkSpells
namespace Go.Proofs.YtahegjhjonodlaaDoor
open Go.ChangeShapes Go.WideShapes Go.ChangeAt Go.RowKit Stb
set_option linter.unusedVariables false
set_option maxRecDepth 100000

/-- what went and what stays -/
def MnPost (w : World) (s : Int × Int × List Int) (e : Ending) (w' : World) : Prop :=
  ∃ u, e = .returned (.tuple #[u, .agg #[.int .i64 s.1, .int .i64 s.2.1], .int .i64 0]) ∧ Mor w w' ∧ w'.ownsRow w.heap.size 3 1 u s.2.2.length (s.2.2.map (Value.int .i64))
def MnNo (w : World) (c : Int) (e : Ending) (w' : World) : Prop := e = .returned (.tuple #[.slice none 0 0, .agg #[.int .i64 0, .int .i64 0], .int .i64 c]) ∧ Mor w w'

theorem meanS_pre {xs : List Pr} {n k : Nat} {s : Int × Int × List Int} (h : meanS xs n = some s) (hk : k ≤ n) : ∃ t, meanS xs k = some t := by
  induction n generalizing s with
  | zero => obtain rfl : k = 0 := by omega
            exact ⟨_, rfl⟩
  | succ n ih =>
    by_cases e : k = n + 1
    · subst e; exact ⟨_, h⟩
    · cases ht : meanS xs n with
      | none =>
        change (meanS xs n).bind _ = _ at h
        rw [ht] at h; cases h
      | some t => exact ih ht (by omega)
theorem own_dr {w : World} {B s n q : Nat} {T : TypeId} {u : Value} {ys : List Value} (h : w.ownsRow B T s u n ys) : (w.drewN q).ownsRow B T s u n ys := h
theorem one_at {w : World} {b : Nat} (u : Value) (t : TypeId) (q : Nat) (h : b = w.heap.size) : ∀ j x, [u][j]? = some x → ((w.alloc (.cells #[u] t)).drewN q).cell? ((⟨b, 0, none⟩ : Addr).add j) = some x := by
  subst h; exact one_lit w u t
theorem own_setS {w : World} {B bS o s n : Nat} {T : TypeId} {u x : Value} {ys : List Value} (h : w.ownsRow B T s u n ys) (hb : bS < B) : (w.setCell ⟨bS, o, none⟩ x).ownsRow B T s u n ys := by
  refine ⟨h.1, ?_⟩
  rcases h.2 with hn | ⟨g, cap, cur, rfl, hg, hh, rest⟩
  · exact .inl hn
  · exact .inr ⟨g, cap, cur, rfl, hg, (Below.heap_setCell _ _ _ _ (show g ≠ bS by omega)).trans hh, rest⟩
theorem own_set2 {w : World} {B bS s n : Nat} {T : TypeId} {u : Value} {ys : List Value} (h : w.ownsRow B T s u n ys) (hb : bS < B) (x y : Value) : ((w.setCell ⟨bS, 0, none⟩ x).setCell ⟨bS, 1, none⟩ y).ownsRow B T s u n ys := own_setS (own_setS h hb) hb
set_option maxRecDepth 100000 in
set_option maxHeartbeats 6400000 in
theorem mean_ok (A : Option Addr) (n cap : Nat) (xs : List Pr) (s : Int × Int × List Int) (w : World) (hr : Pi w A xs) (hn : xs.length = n) (hc : mvc xs = 0) (hs : meanS xs n = some s) :
    Calls Tryd.prog 29 #[.slice A n cap] w (MnPost w s) := by
  obtain ⟨i0, hi, hz0, hz1, hz2⟩ := info_parts info_int'
  obtain ⟨c1, c2⟩ := (mvc_iff xs).1 hc
  have n40 : n ≤ 40 := by omega
  have HC := Lib.hid (fun w' (h : Mor w w') => slook_any A n cap xs w' (hr.mor h) hn (by unfold maxLen; omega))
  rw [hc] at HC
  have HR := Lib.hid hr
  have HN := Lib.hid hn
  have HOk := Lib.hid (fun k (h : k < n) => c2 k (by omega))
  have HF := Lib.hid (fun k (h : k ≤ n) s (e : meanS xs k = some s) => meanS_ok c2 (by omega) e)
  have HSs := Lib.hid hs
  clear hr hn hc c1 c2 hs
  go_enter Tryd.func29, Tryd.ntmps29
  go_wp2_with (first
    | (go_at_call 68; (with_reducible refine (HC.out _ (Mor.refl _).alloc).mono ?_); rintro e w1 ⟨rfl, hM⟩))
  have HM := Lib.hid hM
  clear hM HC
  have HMw := Lib.hid (show Mor w w1 from (Mor.refl _).alloc.trans' HM.out)
  have HR1 := Lib.hid (show Blk w1 w.heap.size 63 #[.int .i64 0, .int .i64 0] from (Blk.new w _ _).below HM.out.below (Blk.new w 63 #[.int .i64 0, .int .i64 0]).lt)
  obtain ⟨bR, hbR⟩ : ∃ b, b = w.heap.size := ⟨_, rfl⟩
  rw [← hbR] at HR1 ⊢
  obtain ⟨bS, hbS⟩ : ∃ b, b = w1.heap.size := ⟨_, rfl⟩
  rw [← hbS]
  have HRS := Lib.hid (show bR < bS by rw [hbS]; exact HR1.out.lt)
  have hB0 := Blk.new w1 63 #[.int .i64 0, .int .i64 0]
  rw [← hbS] at hB0
  have hR0 := HR1.out.alloc (.cells #[.int .i64 0, .int .i64 0] 63)
  have hM0 := HMw.out.alloc (o := .cells #[.int .i64 0, .int .i64 0] 63)
  have hZ0 : (w1.alloc (.cells #[.int .i64 0, .int .i64 0] 63)).heap.size = bS + 1 := by rw [hbS]; show (w1.heap.push _).size = _; simp
  generalize w1.alloc (.cells #[.int .i64 0, .int .i64 0] 63) = w0 at *
  have HB0 := Lib.hid hB0
  have HR0 := Lib.hid hR0
  have HM0 := Lib.hid hM0
  have HZ0 := Lib.hid hZ0
  have HbR := Lib.hid (show w.heap.size ≤ bR by omega)
  clear hB0 hR0 hM0 hZ0 hbS hbR HM HMw HR1
  go_loopw [7, 19] (fun u i wr => ∃ (k : Nat) (t : Int × Int × List Int), k ≤ n ∧ i = .int .i64 k ∧ Hid (meanS xs k = some t) ∧ Hid (Blk wr bS 63 #[.int .i64 t.1, .int .i64 t.2.1]) ∧ Hid (wr.ownsRow w0.heap.size 3 1 u t.2.2.length (t.2.2.map (Value.int .i64))) ∧ Hid (On bS w0 wr)) (fun _ i _ => n - (intOf i).toNat)
  case atStart => exact ⟨0, (0, 0, []), Nat.zero_le _, rfl, Lib.hid rfl, HB0, Lib.hid (World.ownsRow_nil _ _ _ _), Lib.hid (On.refl _ _)⟩
  case round =>
    obtain ⟨k, t, hk, rfl, HFk, HB, HU, HO⟩ := hrel
    have HMr := Lib.hid (mor_on HM0.out HO.out (show w.heap.size ≤ bS by have := HRS.out; have := HbR.out; omega))
    by_cases hlt : k < n
    · have hki : (k : Int) < (n : Int) := by omega
      have hk0 : (0 : Int) ≤ (k : Int) := by omega
      obtain ⟨x, hA, hxb, c1, c2⟩ := (HR.out.mor HMr.out).cells k (by rw [HN.out]; exact hlt)
      subst hA
      obtain ⟨t', ht'⟩ := meanS_pre HSs.out (show k + 1 ≤ n by omega)
      have HFk' := Lib.hid ht'
      have hst : mstep t (ge xs k) = some t' := by
        have h1 : (meanS xs k).bind (fun s => mstep s (ge xs k)) = some t' := ht'
        rw [HFk.out] at h1; exact h1
      have hF := HF.out k (by omega) t HFk.out
      have hm := HOk.out k hlt
      obtain ⟨C, K, outs⟩ := t
      have hz : bS < wr.heap.size := HB.out.lt
      have hv1 : wr.cell? ⟨bS, 0, none⟩ = some (.int .i64 C) := by rw [HB.out.cell]; rfl
      have hv2 : wr.cell? ⟨bS, 1, none⟩ = some (.int .i64 K) := by rw [HB.out.cell]; rfl
      have hf1 : wr.frozen? ⟨bS, 0, none⟩ = false := HB.out.frozen _
      have hf2 : wr.frozen? ⟨bS, 1, none⟩ = false := HB.out.frozen _
      have hb1 := hF.c0
      have hb2 := hF.c1
      have hb3 := hF.k0
      have hb4 := hF.k1
      have hlt2 : outs.length ≤ k := by have h1 := hF.outs; have h2 := negs_le xs k; dsimp only at h1; omega
      clear ht'
      generalize ge xs k = p at *
      obtain ⟨d, a⟩ := p
      unfold mstep at hst
      unfold okM at hm
      dsimp only at *
      by_cases hd : 0 < d
      · rw [if_pos hd] at hst
        injection hst with hst
        subst hst
        have d1 : d ≤ 1000000 := by omega
        have d2 : 0 ≤ a := by omega
        have d3 : a ≤ 1000000000000 := by omega
        clear hm hF
        have HB2 := Lib.hid (fun o => show Blk (((wr.setCell ⟨bS, 0, none⟩ (.int .i64 (C + d))).setCell ⟨bS, 1, none⟩ (.int .i64 (K + a))).alloc o) bS 63 #[.int .i64 (C + d), .int .i64 (K + a)] from ((HB.out.set_ 0 _).set_ 1 _).alloc o)
        have HO2 := Lib.hid (fun o => show On bS w0 (((wr.setCell ⟨bS, 0, none⟩ (.int .i64 (C + d))).setCell ⟨bS, 1, none⟩ (.int .i64 (K + a))).alloc o) from ((HO.out.setCell _).setCell _).mor (Mor.refl _).alloc)
        have HU2 := Lib.hid (fun o => (own_set2 (B := w0.heap.size) HU.out (show bS < w0.heap.size by have := HZ0.out; omega) (.int .i64 (C + d)) (.int .i64 (K + a))).alloc o)
        go_wp2
        go_region
        all_goals go_wp2
        exact ⟨⟨k + 1, (C + d, K + a, outs), by omega, by go_num, HFk', Lib.hid (HB2.out _).drew, Lib.hid (HU2.out _), Lib.hid (HO2.out _).drew⟩, by simp [intOf]; omega⟩
      · rw [if_neg hd] at hst
        obtain ⟨m, rfl⟩ : ∃ m, d = -m := ⟨-d, by omega⟩
        have hmC : ¬ C < m := fun h => by rw [if_pos (by omega)] at hst; cases hst
        rw [if_neg (by omega), Int.neg_neg] at hst
        injection hst with hst
        subst hst
        have m0 : 0 < m := by omega
        have m1 : m ≤ 1000000 := by omega
        have hC1 : 1 ≤ C := by omega
        obtain ⟨g0, g1⟩ := mcost_bd C K m (by omega) hb3 (by omega) (by omega)
        have q0 : 0 ≤ K / C := Int.ediv_nonneg hb3 (by omega)
        have q1 : K / C ≤ K := Int.ediv_le_self _ hb3
        have q2 : K / C ≤ 40000000000000 := by omega
        have hK2 : K ≤ 40000000000000 := by omega
        have hC2 : C ≤ 40000000 := by omega
        have hC3 : 0 < C := by omega
        have hC4 : C ≠ 0 := by omega
        have hC5 : (C == 0) = false := by simpa using hC4
        have hK0 : 0 ≤ K := hb3
        have r0 : 0 ≤ K % C := Int.emod_nonneg _ (by omega)
        have r1 : K % C < C := Int.emod_lt_of_pos _ (by omega)
        have p0 : 0 ≤ K / C * m := Int.mul_nonneg q0 (by omega)
        have z0 : 0 ≤ K % C * m := Int.mul_nonneg r0 (by omega)
        have z1 : K % C * m ≤ 40000000000000 := prod_bd2 (K % C) m 40000000 1000000 r0 (by omega) (by omega) m1
        have p1 : K / C * m ≤ 40000000000000 := by
          have h1 : K / C * m ≤ K / C * C := Int.mul_le_mul_of_nonneg_left (by omega) q0
          have h2 : K / C * C ≤ K := Int.ediv_mul_le K (by omega)
          omega
        have HRd := Lib.hid (fun w' => rounded_any (K % C * m) C 2 w' (by omega) (by omega) (by omega) (by omega))
        have hmc : mcost C K m = K / C * m + rnd (K % C * m) C 2 := rfl
        have HMc := Lib.hid hmc
        have hrd : 0 ≤ rnd (K % C * m) C 2 := le_rnd _ _ _ _ (by omega) (by rw [Int.mul_zero]; exact z0)
        rw [hmc] at g0 g1 HFk'
        clear hm hF hmc
        generalize rnd (K % C * m) C 2 = R at *
        go_wp2
        go_quiet (first | (go_at_call 58; (with_reducible exact Calls.quiet_of (HRd.out _))))
        have hSB : bS < w0.heap.size := by have := HZ0.out; omega
        have HW := Lib.hid (fun o1 o2 nq => And.intro (show World.ownsRow (((((wr.setCell ⟨bS, 0, none⟩ (.int .i64 (C + -m))).setCell ⟨bS, 1, none⟩ (.int .i64 (K - (K / C * m + R)))).alloc o1).alloc o2).drewN nq) w0.heap.size 3 1 u7 outs.length (outs.map (Value.int .i64)) from own_dr (((own_set2 HU.out hSB _ _).alloc _).alloc _)) (And.intro (show On bS w0 (((((wr.setCell ⟨bS, 0, none⟩ (.int .i64 (C + -m))).setCell ⟨bS, 1, none⟩ (.int .i64 (K - (K / C * m + R)))).alloc o1).alloc o2).drewN nq) from (((HO.out.setCell _).setCell _).mor (Mor.refl _).alloc.alloc).drewN) (show Blk (((((wr.setCell ⟨bS, 0, none⟩ (.int .i64 (C + -m))).setCell ⟨bS, 1, none⟩ (.int .i64 (K - (K / C * m + R)))).alloc o1).alloc o2).drewN nq) bS 63 #[.int .i64 (C + -m), .int .i64 (K - (K / C * m + R))] from ((((HB.out.set_ 0 _).set_ 1 _).alloc _).alloc _).drewN nq)))
        have hb1 : ∀ o, wr.heap.size + 1 = (((wr.setCell ⟨bS, 0, none⟩ (.int .i64 (C + -m))).setCell ⟨bS, 1, none⟩ (.int .i64 (K - (K / C * m + R)))).alloc o).heap.size := fun o => by rw [← size_al]; simp [World.setCell]
        go_wp2_with (at_builtin; refine wpList_append_own _ rfl _ _ 22 rfl w0.heap.size 3 i0 (.int .i64 0) 1 8 Tryd.underlying22 hi hz0 hz1 hz2 rfl (by decide) _ _ _ rfl (HW.out _ _ _).1 ⟨wr.heap.size + 1, 0, none⟩ 1 1 [.int .i64 (K / C * m + R)] rfl rfl ?_ ?_ ?_ ?_ ?_ ?_)
        case refine_6 =>
          intro u' w3 hu3 hg3 _
          have HU3 := Lib.hid hu3
          have HO3 := Lib.hid (on_grown (HW.out _ _ _).2.1 (HW.out _ _ _).1 hg3)
          have HB3 := Lib.hid (blk_grown (HW.out _ _ _).2.2 (HW.out _ _ _).1 hSB hg3)
          clear hu3 hg3
          go_wp2
          exact ⟨⟨k + 1, (C + -m, K - (K / C * m + R), outs ++ [K / C * m + R]), by omega, by go_num, HFk', HB3, Lib.hid (by
            have h := HU3.out
            rw [List.length_append, List.map_append]
            exact h), HO3⟩, by simp [intOf]; omega⟩
        all_goals first
          | exact one_at _ _ _ (hb1 _)
          | (intro u hu; simp at hu; subst hu; rfl)
          | (unfold maxLen; omega)
          | omega
          | exact (HW.out _ _ _).2.1.size
    · obtain rfl : k = n := by omega
      have hst : s = t := by have := HFk.out; rw [HSs.out] at this; injection this
      subst hst
      obtain ⟨C, K, outs⟩ := s
      dsimp only at *
      have hRb := HO.out.blk HR0.out (show bR ≠ bS by have := HRS.out; omega)
      have v1 : wr.cell? ⟨bS, 0, none⟩ = some (.int .i64 C) := by rw [HB.out.cell]; rfl
      have v2 : wr.cell? ⟨bS, 1, none⟩ = some (.int .i64 K) := by rw [HB.out.cell]; rfl
      have r1 : wr.cell? ⟨bR, 0, none⟩ = some (.int .i64 0) := by rw [hRb.cell]; rfl
      have r2 : wr.cell? ⟨bR, 1, none⟩ = some (.int .i64 0) := by rw [hRb.cell]; rfl
      have f1 : wr.frozen? ⟨bR, 0, none⟩ = false := hRb.frozen _
      have f2 : wr.frozen? ⟨bR, 1, none⟩ = false := hRb.frozen _
      have hne : bR ≠ bS := by have := HRS.out; omega
      have HU2 := Lib.hid (own_baseS (own_set2 HU.out (show bR < w0.heap.size by have := HZ0.out; have := HRS.out; omega) (.int .i64 C) (.int .i64 K)) (show w.heap.size ≤ w0.heap.size from HM0.out.below.size))
      have HM2 := Lib.hid (show Mor w ((wr.setCell ⟨bR, 0, none⟩ (.int .i64 C)).setCell ⟨bR, 1, none⟩ (.int .i64 K)) from Mor.of_below ((HMr.out.below.setCell HbR.out _).setCell HbR.out _))
      have HE9 := Lib.hid (fun w9 (h : w9 = ((wr.setCell ⟨bR, 0, none⟩ (.int .i64 C)).setCell ⟨bR, 1, none⟩ (.int .i64 K)).drew) => show w9.cell? ⟨bR, 0, none⟩ = some (.int .i64 C) ∧ w9.cell? ⟨bR, 1, none⟩ = some (.int .i64 K) by
        have hB := ((hRb.set_ 0 (.int .i64 C)).set_ 1 (.int .i64 K)).drew
        rw [h]
        exact ⟨by rw [hB.cell]; rfl, by rw [hB.cell]; rfl⟩)
      clear hRb
      go_wp2
      go_region
      all_goals go_wp2
      obtain ⟨w9, hw9⟩ : ∃ w9, w9 = ((wr.setCell ⟨bR, 0, none⟩ (.int .i64 C)).setCell ⟨bR, 1, none⟩ (.int .i64 K)).drew := ⟨_, rfl⟩
      rw [← hw9]
      obtain ⟨e1, e2⟩ := HE9.out w9 hw9
      have HM9 := Lib.hid (show Mor w w9 by rw [hw9]; exact HM2.out.drew)
      have HU9 := Lib.hid (show w9.ownsRow w.heap.size 3 1 u7 outs.length (outs.map (Value.int .i64)) by rw [hw9]; exact HU2.out)
      clear hw9
      refine bodyPost_ret (by simp [results, Tryd.results29, go_sem, e1, e2]; try rfl) rfl ?_
      exact ⟨_, rfl, HM9.out, HU9.out⟩

end Go.Proofs.YtahegjhjonodlaaDoor

/- The walk of stock.Mean, where there are not so many pieces, or moves are wrong. -/
namespace Go.Proofs.YtahegjhjonodlaaDoor
open Go.ChangeShapes Go.WideShapes Go.ChangeAt Go.RowKit Stb
set_option linter.unusedVariables false
set_option maxRecDepth 100000

set_option maxRecDepth 100000 in
set_option maxHeartbeats 6400000 in
theorem mean_short (A : Option Addr) (n cap : Nat) (xs : List Pr) (w : World) (hr : Pi w A xs) (hn : xs.length = n) (hc : mvc xs = 0) (hs : meanS xs n = none) :
    Calls Tryd.prog 29 #[.slice A n cap] w (MnNo w 8) := by
  obtain ⟨i0, hi, hz0, hz1, hz2⟩ := info_parts info_int'
  obtain ⟨c1, c2⟩ := (mvc_iff xs).1 hc
  have n40 : n ≤ 40 := by omega
  have HC := Lib.hid (fun w' (h : Mor w w') => slook_any A n cap xs w' (hr.mor h) hn (by unfold maxLen; omega))
  rw [hc] at HC
  have HR := Lib.hid hr
  have HN := Lib.hid hn
  have HOk := Lib.hid (fun k (h : k < n) => c2 k (by omega))
  have HF := Lib.hid (fun k (h : k ≤ n) s (e : meanS xs k = some s) => meanS_ok c2 (by omega) e)
  have HSs := Lib.hid hs
  clear hr hn hc c1 c2 hs
  go_enter Tryd.func29, Tryd.ntmps29
  go_wp2_with (first
    | (go_at_call 68; (with_reducible refine (HC.out _ (Mor.refl _).alloc).mono ?_); rintro e w1 ⟨rfl, hM⟩))
  have HM := Lib.hid hM
  clear hM HC
  have HMw := Lib.hid (show Mor w w1 from (Mor.refl _).alloc.trans' HM.out)
  have HR1 := Lib.hid (show Blk w1 w.heap.size 63 #[.int .i64 0, .int .i64 0] from (Blk.new w _ _).below HM.out.below (Blk.new w 63 #[.int .i64 0, .int .i64 0]).lt)
  obtain ⟨bR, hbR⟩ : ∃ b, b = w.heap.size := ⟨_, rfl⟩
  rw [← hbR] at HR1 ⊢
  obtain ⟨bS, hbS⟩ : ∃ b, b = w1.heap.size := ⟨_, rfl⟩
  rw [← hbS]
  have HRS := Lib.hid (show bR < bS by rw [hbS]; exact HR1.out.lt)
  have hB0 := Blk.new w1 63 #[.int .i64 0, .int .i64 0]
  rw [← hbS] at hB0
  have hR0 := HR1.out.alloc (.cells #[.int .i64 0, .int .i64 0] 63)
  have hM0 := HMw.out.alloc (o := .cells #[.int .i64 0, .int .i64 0] 63)
  have hZ0 : (w1.alloc (.cells #[.int .i64 0, .int .i64 0] 63)).heap.size = bS + 1 := by rw [hbS]; show (w1.heap.push _).size = _; simp
  generalize w1.alloc (.cells #[.int .i64 0, .int .i64 0] 63) = w0 at *
  have HB0 := Lib.hid hB0
  have HR0 := Lib.hid hR0
  have HM0 := Lib.hid hM0
  have HZ0 := Lib.hid hZ0
  have HbR := Lib.hid (show w.heap.size ≤ bR by omega)
  clear hB0 hR0 hM0 hZ0 hbS hbR HM HMw HR1
  go_loopw [7, 19] (fun u i wr => ∃ (k : Nat) (t : Int × Int × List Int), k ≤ n ∧ i = .int .i64 k ∧ Hid (meanS xs k = some t) ∧ Hid (Blk wr bS 63 #[.int .i64 t.1, .int .i64 t.2.1]) ∧ Hid (wr.ownsRow w0.heap.size 3 1 u t.2.2.length (t.2.2.map (Value.int .i64))) ∧ Hid (On bS w0 wr)) (fun _ i _ => n - (intOf i).toNat)
  case atStart => exact ⟨0, (0, 0, []), Nat.zero_le _, rfl, Lib.hid rfl, HB0, Lib.hid (World.ownsRow_nil _ _ _ _), Lib.hid (On.refl _ _)⟩
  case round =>
    obtain ⟨k, t, hk, rfl, HFk, HB, HU, HO⟩ := hrel
    have HMr := Lib.hid (mor_on HM0.out HO.out (show w.heap.size ≤ bS by have := HRS.out; have := HbR.out; omega))
    by_cases hlt : k < n
    · have hki : (k : Int) < (n : Int) := by omega
      have hk0 : (0 : Int) ≤ (k : Int) := by omega
      obtain ⟨x, hA, hxb, c1, c2⟩ := (HR.out.mor HMr.out).cells k (by rw [HN.out]; exact hlt)
      subst hA
      have HNx := Lib.hid (fun t' (h : mstep t (ge xs k) = some t') => show meanS xs (k + 1) = some t' by
        show (meanS xs k).bind (fun s => mstep s (ge xs k)) = some t'
        rw [HFk.out]; exact h)
      have hF := HF.out k (by omega) t HFk.out
      have hm := HOk.out k hlt
      obtain ⟨C, K, outs⟩ := t
      have hz : bS < wr.heap.size := HB.out.lt
      have hv1 : wr.cell? ⟨bS, 0, none⟩ = some (.int .i64 C) := by rw [HB.out.cell]; rfl
      have hv2 : wr.cell? ⟨bS, 1, none⟩ = some (.int .i64 K) := by rw [HB.out.cell]; rfl
      have hf1 : wr.frozen? ⟨bS, 0, none⟩ = false := HB.out.frozen _
      have hf2 : wr.frozen? ⟨bS, 1, none⟩ = false := HB.out.frozen _
      have hb1 := hF.c0
      have hb2 := hF.c1
      have hb3 := hF.k0
      have hb4 := hF.k1
      have hlt2 : outs.length ≤ k := by have h1 := hF.outs; have h2 := negs_le xs k; dsimp only at h1; omega
      generalize ge xs k = p at *
      obtain ⟨d, a⟩ := p
      unfold mstep at HNx
      unfold okM at hm
      dsimp only at *
      by_cases hd : 0 < d
      · have HFk' := Lib.hid (HNx.out _ (by rw [if_pos hd]))
        have d1 : d ≤ 1000000 := by omega
        have d2 : 0 ≤ a := by omega
        have d3 : a ≤ 1000000000000 := by omega
        clear hm hF
        have HB2 := Lib.hid (fun o => show Blk (((wr.setCell ⟨bS, 0, none⟩ (.int .i64 (C + d))).setCell ⟨bS, 1, none⟩ (.int .i64 (K + a))).alloc o) bS 63 #[.int .i64 (C + d), .int .i64 (K + a)] from ((HB.out.set_ 0 _).set_ 1 _).alloc o)
        have HO2 := Lib.hid (fun o => show On bS w0 (((wr.setCell ⟨bS, 0, none⟩ (.int .i64 (C + d))).setCell ⟨bS, 1, none⟩ (.int .i64 (K + a))).alloc o) from ((HO.out.setCell _).setCell _).mor (Mor.refl _).alloc)
        have HU2 := Lib.hid (fun o => (own_set2 (B := w0.heap.size) HU.out (show bS < w0.heap.size by have := HZ0.out; omega) (.int .i64 (C + d)) (.int .i64 (K + a))).alloc o)
        go_wp2
        go_region
        all_goals go_wp2
        exact ⟨⟨k + 1, (C + d, K + a, outs), by omega, by go_num, HFk', Lib.hid (HB2.out _).drew, Lib.hid (HU2.out _), Lib.hid (HO2.out _).drew⟩, by simp [intOf]; omega⟩
      · obtain ⟨m, rfl⟩ : ∃ m, d = -m := ⟨-d, by omega⟩
        by_cases hmC : C < m
        · have hmi : C < m := hmC
          have m0 : 0 < m := by omega
          have m1 : m ≤ 1000000 := by omega
          have hbr : bR < w0.heap.size := by have := HZ0.out; have := HRS.out; omega
          have HRb := Lib.hid (HO.out.blk HR0.out (show bR ≠ bS by have := HRS.out; omega))
          clear hm hF HNx
          have v1 : wr.cell? ⟨bR, 0, none⟩ = some (.int .i64 0) := by rw [HRb.out.cell]; rfl
          have v2 : wr.cell? ⟨bR, 1, none⟩ = some (.int .i64 0) := by rw [HRb.out.cell]; rfl
          have v3 : wr.frozen? ⟨bR, 0, none⟩ = false := HRb.out.frozen _
          have v4 : wr.frozen? ⟨bR, 1, none⟩ = false := HRb.out.frozen _
          have hbl : bR < wr.heap.size := HRb.out.lt
          have HE9 := Lib.hid (fun w9 o (h : w9 = ((wr.setCell ⟨bR, 0, none⟩ (.int .i64 0)).setCell ⟨bR, 1, none⟩ (.int .i64 0)).alloc o) => show (w9.cell? ⟨bR, 0, none⟩ = some (.int .i64 0) ∧ w9.cell? ⟨bR, 1, none⟩ = some (.int .i64 0)) ∧ Mor w w9 by
            have hB := ((HRb.out.set_ 0 (.int .i64 0)).set_ 1 (.int .i64 0)).alloc o
            rw [h]
            exact ⟨⟨by rw [hB.cell]; rfl, by rw [hB.cell]; rfl⟩, (Mor.of_below ((HMr.out.below.setCell HbR.out _).setCell HbR.out _)).alloc⟩)
          go_wp2
          obtain ⟨w9, hw9⟩ : ∃ w9, w9 = (((wr.setCell ⟨bR, 0, none⟩ (.int .i64 0)).setCell ⟨bR, 1, none⟩ (.int .i64 0)).alloc (.cells #[.int .i64 (-m), .int .i64 a] 55)) := ⟨_, rfl⟩
          rw [← hw9]
          obtain ⟨⟨e1, e2⟩, e3⟩ := HE9.out w9 _ hw9
          clear hw9
          refine bodyPost_ret (by simp [results, Tryd.results29, go_sem, e1, e2]; try rfl) rfl ?_
          exact ⟨rfl, e3⟩
        · have hb0 := hmC
          have m0 : 0 < m := by omega
          have m1 : m ≤ 1000000 := by omega
          have hC1 : 1 ≤ C := by omega
          obtain ⟨g0, g1⟩ := mcost_bd C K m (by omega) hb3 (by omega) (by omega)
          have q0 : 0 ≤ K / C := Int.ediv_nonneg hb3 (by omega)
          have q1 : K / C ≤ K := Int.ediv_le_self _ hb3
          have q2 : K / C ≤ 40000000000000 := by omega
          have hK2 : K ≤ 40000000000000 := by omega
          have hC2 : C ≤ 40000000 := by omega
          have hC3 : 0 < C := by omega
          have hC4 : C ≠ 0 := by omega
          have hC5 : (C == 0) = false := by simpa using hC4
          have hK0 : 0 ≤ K := hb3
          have r0 : 0 ≤ K % C := Int.emod_nonneg _ (by omega)
          have r1 : K % C < C := Int.emod_lt_of_pos _ (by omega)
          have p0 : 0 ≤ K / C * m := Int.mul_nonneg q0 (by omega)
          have z0 : 0 ≤ K % C * m := Int.mul_nonneg r0 (by omega)
          have z1 : K % C * m ≤ 40000000000000 := prod_bd2 (K % C) m 40000000 1000000 r0 (by omega) (by omega) m1
          have p1 : K / C * m ≤ 40000000000000 := by
            have h1 : K / C * m ≤ K / C * C := Int.mul_le_mul_of_nonneg_left (by omega) q0
            have h2 : K / C * C ≤ K := Int.ediv_mul_le K (by omega)
            omega
          have HRd := Lib.hid (fun w' => rounded_any (K % C * m) C 2 w' (by omega) (by omega) (by omega) (by omega))
          have hmc : mcost C K m = K / C * m + rnd (K % C * m) C 2 := rfl
          have HMc := Lib.hid hmc
          have hrd : 0 ≤ rnd (K % C * m) C 2 := le_rnd _ _ _ _ (by omega) (by rw [Int.mul_zero]; exact z0)
          have HFk' := Lib.hid (HNx.out _ (by rw [if_neg hd, if_neg (by omega), Int.neg_neg]))
          rw [hmc] at g0 g1 HFk'
          clear hm hF hmc HNx
          generalize rnd (K % C * m) C 2 = R at *
          go_wp2
          go_quiet (first | (go_at_call 58; (with_reducible exact Calls.quiet_of (HRd.out _))))
          have hSB : bS < w0.heap.size := by have := HZ0.out; omega
          have HW := Lib.hid (fun o1 o2 nq => And.intro (show World.ownsRow (((((wr.setCell ⟨bS, 0, none⟩ (.int .i64 (C + -m))).setCell ⟨bS, 1, none⟩ (.int .i64 (K - (K / C * m + R)))).alloc o1).alloc o2).drewN nq) w0.heap.size 3 1 u7 outs.length (outs.map (Value.int .i64)) from own_dr (((own_set2 HU.out hSB _ _).alloc _).alloc _)) (And.intro (show On bS w0 (((((wr.setCell ⟨bS, 0, none⟩ (.int .i64 (C + -m))).setCell ⟨bS, 1, none⟩ (.int .i64 (K - (K / C * m + R)))).alloc o1).alloc o2).drewN nq) from (((HO.out.setCell _).setCell _).mor (Mor.refl _).alloc.alloc).drewN) (show Blk (((((wr.setCell ⟨bS, 0, none⟩ (.int .i64 (C + -m))).setCell ⟨bS, 1, none⟩ (.int .i64 (K - (K / C * m + R)))).alloc o1).alloc o2).drewN nq) bS 63 #[.int .i64 (C + -m), .int .i64 (K - (K / C * m + R))] from ((((HB.out.set_ 0 _).set_ 1 _).alloc _).alloc _).drewN nq)))
          have hb1 : ∀ o, wr.heap.size + 1 = (((wr.setCell ⟨bS, 0, none⟩ (.int .i64 (C + -m))).setCell ⟨bS, 1, none⟩ (.int .i64 (K - (K / C * m + R)))).alloc o).heap.size := fun o => by rw [← size_al]; simp [World.setCell]
          go_wp2_with (at_builtin; refine wpList_append_own _ rfl _ _ 22 rfl w0.heap.size 3 i0 (.int .i64 0) 1 8 Tryd.underlying22 hi hz0 hz1 hz2 rfl (by decide) _ _ _ rfl (HW.out _ _ _).1 ⟨wr.heap.size + 1, 0, none⟩ 1 1 [.int .i64 (K / C * m + R)] rfl rfl ?_ ?_ ?_ ?_ ?_ ?_)
          case refine_6 =>
            intro u' w3 hu3 hg3 _
            have HU3 := Lib.hid hu3
            have HO3 := Lib.hid (on_grown (HW.out _ _ _).2.1 (HW.out _ _ _).1 hg3)
            have HB3 := Lib.hid (blk_grown (HW.out _ _ _).2.2 (HW.out _ _ _).1 hSB hg3)
            clear hu3 hg3
            go_wp2
            exact ⟨⟨k + 1, (C + -m, K - (K / C * m + R), outs ++ [K / C * m + R]), by omega, by go_num, HFk', HB3, Lib.hid (by
              have h := HU3.out
              rw [List.length_append, List.map_append]
              exact h), HO3⟩, by simp [intOf]; omega⟩
          all_goals first
            | exact one_at _ _ _ (hb1 _)
            | (intro u hu; simp at hu; subst hu; rfl)
            | (unfold maxLen; omega)
            | omega
            | exact (HW.out _ _ _).2.1.size
    · obtain rfl : k = n := by omega
      have h := HFk.out
      rw [HSs.out] at h
      cases h

set_option maxHeartbeats 3200000 in
theorem mean_bad (A : Option Addr) (n cap : Nat) (xs : List Pr) (w : World) (hr : Pi w A xs) (hn : xs.length = n) (hml : n ≤ maxLen) (hc : mvc xs ≠ 0) :
    Calls Tryd.prog 29 #[.slice A n cap] w (MnNo w (mvc xs)) := by
  have HC := Lib.hid (fun w' (h : Mor w w') => slook_any A n cap xs w' (hr.mor h) hn hml)
  have hc' : (mvc xs == 0) = false := by simpa using hc
  generalize mvc xs = c at *
  clear hr hn hml hc
  have HKeep := Lib.hid (fun w1 (h : Mor (w.alloc (.cells #[.int .i64 0, .int .i64 0] 63)) w1) => show Blk w1 w.heap.size 63 #[.int .i64 0, .int .i64 0] ∧ Mor w w1 from
    ⟨(Blk.new w _ _).below h.below (Blk.new w 63 #[.int .i64 0, .int .i64 0]).lt, (Mor.refl _).alloc.trans' h⟩)
  go_enter Tryd.func29, Tryd.ntmps29
  go_wp2_with fail
  refine (HC.out _ (Mor.refl _).alloc).mono ?_
  rintro e w1 ⟨rfl, hM⟩
  obtain ⟨hB, hMw⟩ := HKeep.out _ hM
  have HB := Lib.hid hB
  have HMw := Lib.hid hMw
  obtain ⟨bR, hbR⟩ : ∃ b, b = w.heap.size := ⟨_, rfl⟩
  rw [← hbR] at HB ⊢
  have v1 : w1.cell? ⟨bR, 0, none⟩ = some (.int .i64 0) := by rw [HB.out.cell]; rfl
  have v2 : w1.cell? ⟨bR, 1, none⟩ = some (.int .i64 0) := by rw [HB.out.cell]; rfl
  have v3 : w1.frozen? ⟨bR, 0, none⟩ = false := HB.out.frozen _
  have v4 : w1.frozen? ⟨bR, 1, none⟩ = false := HB.out.frozen _
  have HE9 := Lib.hid (fun w9 (h : w9 = (w1.setCell ⟨bR, 0, none⟩ (.int .i64 0)).setCell ⟨bR, 1, none⟩ (.int .i64 0)) => show (w9.cell? ⟨bR, 0, none⟩ = some (.int .i64 0) ∧ w9.cell? ⟨bR, 1, none⟩ = some (.int .i64 0)) ∧ Mor w w9 by
    have hB := (HB.out.set_ 0 (.int .i64 0)).set_ 1 (.int .i64 0)
    rw [h]
    exact ⟨⟨by rw [hB.cell]; rfl, by rw [hB.cell]; rfl⟩, Mor.of_below ((HMw.out.below.setCell (show w.heap.size ≤ bR by omega) _).setCell (show w.heap.size ≤ bR by omega) _)⟩)
  clear hB hMw hM hbR
  go_wp2
  obtain ⟨w9, hw9⟩ : ∃ w9, w9 = ((w1.setCell ⟨bR, 0, none⟩ (.int .i64 0)).setCell ⟨bR, 1, none⟩ (.int .i64 0)) := ⟨_, rfl⟩
  rw [← hw9]
  obtain ⟨⟨e1, e2⟩, e3⟩ := HE9.out w9 hw9
  clear hw9
  refine bodyPost_ret (by simp [results, Tryd.results29, go_sem, e1, e2]; try rfl) rfl ?_
  exact ⟨rfl, e3⟩
theorem both_none {xs : List Pr} (h : mvc xs = 0) : (fifoS xs xs.length).isNone = (meanS xs xs.length).isNone := by
  obtain ⟨_, h2⟩ := (mvc_iff xs).1 h
  have h3 := (fifoS_iff h2 (Nat.le_refl _)).trans (meanS_iff h2 (Nat.le_refl _)).symm
  cases ha : fifoS xs xs.length with
  | none =>
    cases hb : meanS xs xs.length with
    | none => rfl
    | some s => obtain ⟨t, ht⟩ := h3.2 ⟨s, hb⟩; rw [ha] at ht; cases ht
  | some t =>
    cases hb : meanS xs xs.length with
    | none => obtain ⟨s, hs⟩ := h3.1 ⟨t, ha⟩; rw [hb] at hs; cases hs
    | some s => rfl
theorem mean_no (A : Option Addr) (n cap : Nat) (xs : List Pr) (w : World) (hr : Pi w A xs) (hn : xs.length = n) (hml : n ≤ maxLen) (hc : fifoc xs ≠ 0) :
    Calls Tryd.prog 29 #[.slice A n cap] w (MnNo w (fifoc xs)) := by
  by_cases h : mvc xs = 0
  · have e : fifoc xs = if (meanS xs xs.length).isNone then 8 else 0 := by unfold fifoc; rw [if_neg (by simp [h]), both_none h]
    rw [e] at hc ⊢
    cases hq : meanS xs xs.length with
    | none => rw [if_pos (by rfl)]; exact mean_short A n cap xs w hr hn h (by rw [← hn]; exact hq)
    | some s => rw [hq] at hc; exact absurd rfl hc
  · have e : fifoc xs = mvc xs := by unfold fifoc; rw [if_pos h]
    rw [e]; exact mean_bad A n cap xs w hr hn hml h
theorem fifoc_mean {xs : List Pr} (h : fifoc xs = 0) : ∃ s, meanS xs xs.length = some s := by
  obtain ⟨h1, s, hs⟩ := fifoc_zero h
  have := both_none h1
  rw [hs] at this
  cases hb : meanS xs xs.length with
  | none => rw [hb] at this; cases this
  | some t => exact ⟨t, rfl⟩

end Go.Proofs.YtahegjhjonodlaaDoor

/- What the laws of stock share: rows that were made, read; Equal at numbers and at lots. -/
namespace Go.Proofs.YtahegjhjonodlaaDoor
open Go.ChangeShapes Go.WideShapes Go.ChangeAt Go.RowKit Stb
set_option linter.unusedVariables false
set_option maxRecDepth 100000

theorem Rd.pl {w : World} {A : Option Addr} {xs : List Pr} (h : Rd w A (flat lc xs)) : Pi w A xs := by
  by_cases h0 : xs = []
  · exact .inl h0
  · have hl : 0 < xs.length := List.length_pos_iff.2 h0
    obtain ⟨b, o, rfl, hb, _⟩ := h.field 2 (fun _ => rfl) 0 hl (by omega)
    refine .inr ⟨_, rfl, hb, fun i hi => ?_⟩
    obtain ⟨b', o', e, _, hc⟩ := h.field 2 (fun _ => rfl) i hi (by omega)
    injection e with e
    injection e with e1 e2
    subst e1 e2
    rw [adds]
    refine ⟨?_, ?_⟩
    · have := hc 0 (by omega)
      rw [Nat.add_zero] at this
      rw [this]
      unfold px
      rw [show xs.getD i (0, 0) = xs[i] by rw [List.getD_eq_getElem?_getD, List.getElem?_eq_getElem hi]; rfl]; rfl
    · have := hc 1 (by omega)
      rw [this]
      unfold py
      rw [show xs.getD i (0, 0) = xs[i] by rw [List.getD_eq_getElem?_getD, List.getElem?_eq_getElem hi]; rfl]; rfl
theorem own_pl {w : World} {base n c : Nat} {T : TypeId} {A : Option Addr} {xs : List Pr} (h : w.ownsRow base T 2 (.slice A n c) n (flat lc xs)) : Pi w A xs := (Rd.own h).pl
end Go.Proofs.YtahegjhjonodlaaDoor
