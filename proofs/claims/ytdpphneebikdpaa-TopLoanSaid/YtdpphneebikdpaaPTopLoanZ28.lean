/- The walk of taltop.TopLoan. -/
import Derived.Test.YtdpphneebikdpaaPTopLoanZ1
import Derived.Test.YtdpphneebikdpaaPTopLoanZ2
import Derived.Test.YtdpphneebikdpaaPTopLoanZ3
import Derived.Test.YtdpphneebikdpaaPTopLoanZ4
import Derived.Test.YtdpphneebikdpaaPTopLoanZ5
import Derived.Test.YtdpphneebikdpaaPTopLoanZ6
import Derived.Test.YtdpphneebikdpaaPTopLoanZ7
import Derived.Test.YtdpphneebikdpaaPTopLoanZ8
import Derived.Test.YtdpphneebikdpaaPTopLoanZ9
import Derived.Test.YtdpphneebikdpaaPTopLoanZ10
import Derived.Test.YtdpphneebikdpaaPTopLoanZ11
import Derived.Test.YtdpphneebikdpaaPTopLoanZ12
import Derived.Test.YtdpphneebikdpaaPTopLoanZ13
import Derived.Test.YtdpphneebikdpaaPTopLoanZ14
import Derived.Test.YtdpphneebikdpaaPTopLoanZ15
import Derived.Test.YtdpphneebikdpaaPTopLoanZ16
import Derived.Test.YtdpphneebikdpaaPTopLoanZ17
import Derived.Test.YtdpphneebikdpaaPTopLoanZ18
import Derived.Test.YtdpphneebikdpaaPTopLoanZ19
import Derived.Test.YtdpphneebikdpaaPTopLoanZ20
import Derived.Test.YtdpphneebikdpaaPTopLoanZ21
import Derived.Test.YtdpphneebikdpaaPTopLoanZ22
import Derived.Test.YtdpphneebikdpaaPTopLoanZ23
import Derived.Test.YtdpphneebikdpaaPTopLoanZ24
import Derived.Test.YtdpphneebikdpaaPTopLoanZ25
import Derived.Test.YtdpphneebikdpaaPTopLoanZ26
import Derived.Test.YtdpphneebikdpaaPTopLoanZ27
import Derived.Test.YtdpphneebikdpaaRows
import Derived.BigQuiet
import Derived.BigRegion
import Derived.Carry
import Derived.DataElems
import Derived.Deep.DeepCutAuto
import Derived.Deep.LoopGhost
import Derived.Deep.QuietTactic
import Derived.Deep.RegionHeld3
import Derived.Deep.RegionLaw
import Derived.Deep.RegionWith
import Derived.Deep.SlicePairs
import Derived.Deep.Slices
import Derived.Deep.Strs
import Derived.Handy
import Derived.IntWalk
import Derived.Laws.AppendOwn
import Derived.Laws.CopyOwn
import Derived.Laws.CopyRow
import Derived.Laws.Cover1
import Derived.Laws.Externs
import Derived.Laws.NewBlocks
import Derived.Lib.AppendZerosOnto
import Derived.Lib.Bytealg
import Derived.Lib.Hide
import Derived.Lib.Overlaps
import Derived.Lib.SliceRun
import Derived.Lib.Walk
import Derived.Maps.Own
import Derived.Maps.OwnSet
import Derived.Maps.Views
import Derived.OpenShut
import Derived.Outline
import Derived.OwnWalk
import Derived.PlainAid
import Derived.ProofKit
import Derived.RegionTactic
import Derived.Shelf.Abstract
import Derived.Shelf.RegionOpenPlain
import Derived.Sort.Walk0
import Derived.StringKeys
import Derived.WalkKit
import Derived.WalkSpells
namespace Go.Proofs.Ytdpphneebikdpaa.topLoan
open Go Go.ChangeShapes Go.WideShapes Go.ChangeAt Go.RowKit Go.PlainAid
set_option linter.unusedVariables false
set_option maxRecDepth 100000

theorem bk_ne {w : World} {g g' : Nat} {T T' : TypeId} {cs cs' : Array Value} (h : Bk w g T cs) (h' : Bk w g' T' cs') (hT : T ≠ T') : g ≠ g' := by
  rintro rfl
  unfold Bk at h h'
  rw [h] at h'
  injection h' with h'
  injection h' with _ h2
  exact hT h2
theorem own_setv {w : World} {base s n g c i : Nat} {T : TypeId} {cur : Array Value} {xs : List Value} (u : Value) (hb : Bk w g T cur) (hB : base ≤ g) (h1 : n ≤ c) (h2 : c ≤ maxLen) (h3 : cur.size = c * s) (h4 : cur.toList.take (n * s) = xs) (hl : xs.length = n * s) :
    (w.setCell ⟨g, i, none⟩ u).ownsRow base T s (.slice (some ⟨g, 0, none⟩) n c) n (xs.set i u) := by
  refine ⟨by rw [List.length_set]; exact hl, .inr ⟨g, c, _, rfl, hB, hb.set_ i u, h1, h2, by rw [Array.size_setIfInBounds]; exact h3, ?_⟩⟩
  rw [Array.toList_setIfInBounds, List.take_set, h4]

set_option maxRecDepth 100000 in
set_option maxHeartbeats 6400000 in
theorem topLoan_walk (w : World) (v0 : Int) (w0 : (Lit.int .i64 v0).wf = true) (v1 : Int) (w1 : (Lit.int .i64 v1).wf = true) (v2 : Int) (w2 : (Lit.int .i64 v2).wf = true) :
    Calls Try.prog 5 #[.int .i64 v0, .int .i64 v1, .int .i64 v2] w fun e w' => e = .returned (.bool true) ∧ Below w.heap.size w w' := by
  have a0 := wi_lo v0 1000000000 (by omega)
  have a1 := wi_hi v0 1000000000 (by omega)
  have r0 := wi_lo v1 200000 (by omega)
  have r1 := wi_hi v1 200000 (by omega)
  have n0 := wi_lo v2 40 (by omega)
  have n1 := wi_hi v2 40 (by omega)
  have HW0 := Lib.hid (fun w => within_any v0 1000000000 w (by omega) (by omega))
  have HW1 := Lib.hid (fun w => within_any v1 200000 w (by omega) (by omega))
  have HW2 := Lib.hid (fun w => within_any v2 40 w (by omega) (by omega))
  obtain ⟨o, ho⟩ : ∃ o, 1 + wi v0 1000000000 = o := ⟨_, rfl⟩
  obtain ⟨n, hn⟩ : ∃ n : Nat, 1 + wi v2 40 = (n : Int) := ⟨(1 + wi v2 40).toNat, by omega⟩
  generalize wi v0 1000000000 = y0 at *
  generalize wi v1 200000 = r at *
  generalize wi v2 40 = y2 at *
  have o1 : 1 ≤ o := by omega
  have o9 : o ≤ 1000000000 := by omega
  have m1 : 1 ≤ n := by omega
  have m40 : n ≤ 40 := by omega
  have hln : loanP o r := ⟨by omega, by omega, by omega, by omega⟩
  have HLe := Lib.hid (fun w => show Calls Try.prog 22 #[.int .i64 o, .int .i64 r, .int .i64 (n : Int)] w (fun e w' => ∃ p, e = .returned (.tuple #[.int .i64 p, .int .i64 0]) ∧ Mor w w' ∧ leastP o r n p) from Least_int o r n n w rfl hln m1 m40)
  clear w0 w1 w2
  go_enter Try.func5, Try.ntmps5
  go_wp2_with fail
  refine (topbegun_any _).mono ?_
  rintro e wb ⟨rfl, hmb⟩
  have HMb := Lib.hid hmb
  clear hmb
  go_wp2_with (first
    | (go_at_call 11; (with_reducible refine (HW0.out _).mono ?_); rintro e w4 ⟨rfl, rfl⟩)
    | (go_at_call 11; (with_reducible refine (HW1.out _).mono ?_); rintro e w4 ⟨rfl, rfl⟩)
    | (go_at_call 11; (with_reducible refine (HW2.out _).mono ?_); rintro e w4 ⟨rfl, rfl⟩))
  refine (HLe.out _).mono ?_
  rintro e w2 ⟨p, rfl, hm2, hle⟩
  have HM2 := Lib.hid (HMb.out.trans' hm2)
  obtain ⟨p1, p9, hok, -⟩ := hle
  have hok40 := okp_mono o o r r p p 40 n (by omega) (Int.le_refl _) (by omega) (Int.le_refl _) (Int.le_refl _) m40 (by omega) hok
  have hpi : nint o r < p ∧ nl o r p n = 0 := by
    rcases hok with h | h
    · omega
    · exact h
  have HRo := Lib.hid (fun w => show Calls Try.prog 23 #[.int .i64 o, .int .i64 r, .int .i64 p] w (fun e w' => ∃ T A c bs k, e = .returned (.tuple #[.slice A T c, .int .i64 0]) ∧ w' = more w bs k ∧ (NT o r p T ∧ ∀ k, nl o r p k ≤ o) ∧ T ≤ 40 ∧ T ≤ c ∧ Rd (more w bs k) A (nrows o r p T)) from Rows_good o r p w ⟨hln, p1, p9⟩ hok40)
  clear hm2 hok hok40 HLe
  go_wp2_with fail
  refine (HRo.out _).mono ?_
  rintro e w3 ⟨T, RA, rc, bs, dk, rfl, hw3, ⟨hNT, hnlo⟩, hT40, hTc, hrd⟩
  rw [← hw3] at hrd
  have HM3 := Lib.hid (HM2.out.trans' ⟨bs, dk, hw3⟩)
  have hTn : T ≤ n := (hNT.end_ (by omega) m40).2 hpi.2
  have hz : nl o r p T = 0 := by
    rcases hNT.2.2 with h | h
    · omega
    · exact h
  have HRd := Lib.hid hrd
  clear hw3 hrd HRo
  have hTnI : (T : Int) ≤ (n : Int) := by omega
  go_wp2_with fail
  refine (topplain_any _).mono ?_
  rintro e w4 ⟨g4, rfl, hq4, hm4⟩
  have HM4 := Lib.hid (HM3.out.trans' hm4)
  have HM34 := Lib.hid hm4
  have HQ4 := Lib.hid hq4
  clear hq4 hm4
  have HMv0 := Lib.hid (fun w => moved_any 99 0 o s10 s20 w (by omega) (by omega) (by omega))
  go_wp2_with fail
  refine (HMv0.out _).mono ?_
  rintro e w5 ⟨gL, rfl, hln5, -, hm5⟩
  have HM5 := Lib.hid (HM4.out.trans' hm5)
  have HM35 := Lib.hid (HM34.out.trans' hm5)
  obtain ⟨hst0, hpc0⟩ := LnI.start o r p o1 o9
  have HSt0 := Lib.hid hst0
  have hP0 := post_yes (some ⟨g4, 0, none⟩) 6 6 none 0 0 topB ⟨kyB 99, 0, [(s10, o), (s20, -o)]⟩ (some ⟨gL, 0, none⟩) 2 2 w5 (HQ4.out.mor hm5) (bk_two hln5 (by unfold maxLen; show (2 : Nat) ≤ _; omega) (by unfold maxLen; show (2 : Nat) ≤ _; omega)) (kyB_max _) hpc0
  have HP0 := Lib.hid (show Calls Try.prog 19 #[bv (some ⟨g4, 0, none⟩) 6 6 none 0 0 (-1), .agg #[.string (kyB 99), .int .i64 0, .slice (some ⟨gL, 0, none⟩) 2 2]] w5 (fun e w'' => ∃ A c X m k9, e = .returned (.tuple #[bv A 6 c X m k9 (-1), .int .i64 0]) ∧ OwnB w'' w5.heap.size (.slice A 6 c) (.slice X m k9) 6 m (lnb o r p 0) ∧ Mor w5 w'') from by
    refine hP0.mono fun e w'' h => ?_
    obtain ⟨A9, c9, X9, m9, k9, he, ho, hm9⟩ := postYes_own h (n := 6) (by rw [(post_ac _ _).1]; rfl)
    rw [(post_ac _ _).2] at he
    exact ⟨A9, c9, X9, m9, k9, he, ho, hm9⟩)
  clear hm5 hln5 hst0 hpc0 hP0 HMv0
  go_wp2_with fail
  refine HP0.out.mono ?_
  rintro e w6 ⟨A6, c6, X6, m6, k6, rfl, ho6, hm6⟩
  have HO6 := Lib.hid ho6
  have HM6 := Lib.hid (HM5.out.trans' hm6)
  have HM36 := Lib.hid (HM35.out.trans' hm6)
  clear ho6 hm6 HP0
  have hX7 := Bk.new w6 41 #[.slice A6 6 c6, .slice X6 m6 k6, .int .i64 (-1)]
  have hM67 := (Mor.refl w6).alloc (o := .cells #[.slice A6 6 c6, .slice X6 m6 k6, .int .i64 (-1)] 41)
  obtain ⟨bX, hbX⟩ : ∃ g, g = w6.heap.size := ⟨_, rfl⟩
  go_wp2_with fail
  rw [← hbX] at hX7 ⊢
  have hwX : w6.heap.size ≤ bX := by omega
  clear hbX
  generalize w6.alloc (.cells #[.slice A6 6 c6, .slice X6 m6 k6, .int .i64 (-1)] 41) = w7 at *
  -- the loop
  obtain ⟨i0, hi, hz0, hz1, hz2⟩ := info_parts info_line
  have HNp := Lib.hid hNT.2.1
  have HNl := Lib.hid hnlo
  have HPi := Lib.hid hpi.1
  have HZe := Lib.hid hz
  have hr0 : 0 ≤ r := r0
  have hr9 : r ≤ 1000000 := by omega
  clear hNT hnlo hpi hz
  go_loopw [8, 11, 68] (fun e s i wr => ∃ (k : Nat) (A' : Option Addr) (c' : Nat) (X' : Option Addr) (m' k' : Nat), k ≤ T ∧ i = .int .i64 k ∧ e = .int .i64 0 ∧ s = .int .i64 (nsum o r p k) ∧ Hid (Bk wr bX 41 #[.slice A' 6 c', .slice X' m' k', .int .i64 (-1)] ∧ (∃ B, OwnB wr B (.slice A' 6 c') (.slice X' m' k') 6 m' (lnb o r p k)) ∧ LnI o r p k ∧ Mor w6 wr)) (fun _ _ i _ => T - (intOf i).toNat)
  case atStart => exact ⟨0, A6, c6, X6, m6, k6, Nat.zero_le _, rfl, rfl, rfl, Lib.hid ⟨hX7, ⟨_, HO6.out.mor hM67⟩, HSt0.out, hM67⟩⟩
  case round =>
    clear hX7 hM67
    obtain ⟨k, A', c', X', m', k', hk, rfl, rfl, rfl, HR⟩ := hrel
    by_cases hlt : k < T
    · have hki : (k : Int) < (T : Int) := by omega
      have hk0 : (0 : Int) ≤ (k : Int) := by omega
      have hkc : (k : Int) < (rc : Int) := by omega
      obtain ⟨hbx, ⟨B0, hob⟩, hli, hmr⟩ := HR.out
      have hrw := Rd.mor HRd.out (HM36.out.trans' hmr)
      obtain ⟨rb, ro, hRA, hrb, hrc⟩ := Rd.field 3 (nrow_len o r p) hrw k (by simpa using hlt) (by omega)
      have c0 := hrc 0 (by omega)
      have c1 := hrc 1 (by omega)
      have c2 := hrc 2 (by omega)
      simp [nrow] at c0 c1 c2
      subst hRA
      have hpos := HNp.out k hlt
      obtain ⟨t1, t2, t3, t4⟩ := nl_step o r p (by omega) hr0 hr9 HPi.out k
      obtain ⟨ib0, ib9⟩ := nint_bd (nl o r p k) r (by omega) hr0 hr9
      have f1 := t4 hpos
      have f9 : noff (nl o r p k) r p ≤ nl o r p k := by unfold noff; omega
      obtain ⟨s0, s9⟩ := nsum_bd o r p (by omega) (by omega) hr0 hr9 HNl.out k
      have hst := hli.step (by omega) f1 (by omega) ib0 (by omega)
      have HStp := Lib.hid hst
      have HLi := Lib.hid hli
      have HNx := Lib.hid (show lnb o r p (k + 1) = postb (lnb o r p k) ⟨kyB k, (k : Int) + 1, rwl (noff (nl o r p k) r p) (nint (nl o r p k) r)⟩ from rfl)
      have HSx := Lib.hid (show nsum o r p (k + 1) = nsum o r p k + nint (nl o r p k) r from rfl)
      have HBr := Lib.hid (fun w' (h : Mor wr w') => hbx.mor h)
      have HOr := Lib.hid (fun w' (h : Mor wr w') => hob.mor h)
      have HMr := Lib.hid hmr
      have l0 := nl_nonneg o r p (by omega) (k + 1)
      have l9 : nl o r p (k + 1) ≤ 1000000000 := by omega
      have i9' : nint (nl o r p k) r ≤ 1000000000 := by omega
      have f9' : noff (nl o r p k) r p ≤ 1000000000 := by omega
      have HMv := Lib.hid (fun w => moved_any k ((k : Int) + 1) (noff (nl o r p k) r p) s20 s10 w (by omega) (by omega) (by omega))
      clear hst hli hbx hob hmr hrw hrc t1 t2 t3 t4 hpos f9 ib9 HR
      obtain ⟨lf, hlf⟩ : ∃ lf, nl o r p (k + 1) = lf := ⟨_, rfl⟩
      rw [hlf] at l0 l9 c2
      have HLf := Lib.hid hlf
      clear hlf
      generalize noff (nl o r p k) r p = f at *
      generalize nint (nl o r p k) r = ii at *
      generalize nsum o r p k = ss at *
      have hbR := Bk.new wr 62 #[.int .i64 ii, .int .i64 f, .int .i64 lf]
      have hmR := (Mor.refl wr).alloc (o := .cells #[.int .i64 ii, .int .i64 f, .int .i64 lf] 62)
      go_wp2_with fail
      obtain ⟨bR, hgR⟩ : ∃ g, g = wr.heap.size := ⟨_, rfl⟩
      rw [← hgR] at hbR ⊢
      have hRX : bR ≠ bX := by have := (HBr.out _ (Mor.refl _)).lt; omega
      clear hgR
      generalize wr.alloc (.cells #[.int .i64 ii, .int .i64 f, .int .i64 lf] 62) = wR at *
      refine (HMv.out _).mono ?_
      rintro e w8 ⟨gL, rfl, hln8, hgl8, hm8⟩
      have HmR := Lib.hid hmR
      have HM8 := Lib.hid hm8
      have hmr8 := hmR.trans' hm8
      have hbR8 := hbR.mor hm8
      have hbx8 := HBr.out _ hmr8
      have q0 := hbR8.cell 0
      have ql := hbR8.lt
      have b0 := hbx8.cell 0
      have b1 := hbx8.cell 1
      have b2 := hbx8.cell 2
      have bl := hbx8.lt
      simp at q0 b0 b1 b2
      have hE := Bk.new w8 47 #[.string (kyB k), .int .i64 ((k : Int) + 1), .slice (some ⟨gL, 0, none⟩) 2 2]
      have hmE := (Mor.refl w8).alloc (o := .cells #[.string (kyB k), .int .i64 ((k : Int) + 1), .slice (some ⟨gL, 0, none⟩) 2 2] 47)
      by_cases hi0 : ii = 0
      · have HRw := Lib.hid (show rwl f ii = [(s20, f), (s10, -f)] by unfold rwl; rw [if_neg (by omega)])
        have HLq := Lib.hid (bk_two (hln8.mor hmE) (by unfold maxLen; show (2 : Nat) ≤ _; omega) (by unfold maxLen; show (2 : Nat) ≤ _; omega))
        have HBz := Lib.hid (hbx8.mor hmE)
        have HOz := Lib.hid (HOr.out _ (hmr8.trans' hmE))
        have HMz := Lib.hid (HMr.out.trans' (hmr8.trans' hmE))
        have HRz := Lib.hid (hbR8.mor hmE)
        subst hi0
        clear hln8 hgl8 hm8 hmR hmr8 hbR8 hbR hbx8 hE hmE
        go_wp2_with fail
        generalize w8.alloc (.cells #[.string (kyB k), .int .i64 ((k : Int) + 1), .slice (some ⟨gL, 0, none⟩) 2 2] 47) = wz at *
        have hpc := HStp.out.2
        have hbq := own_bq HOz.out
        have hsj : (lnb o r p k).shut = -1 := HLi.out.led.sh
        have haj := hbq.ac.length
        have HPo := Lib.hid (show Calls Try.prog 19 #[bv A' 6 c' X' m' k' (-1), .agg #[.string (kyB k), .int .i64 ((k : Int) + 1), .slice (some ⟨gL, 0, none⟩) 2 2]] wz (fun e w'' => ∃ A c X m k9, e = .returned (.tuple #[bv A 6 c X m k9 (-1), .int .i64 0]) ∧ OwnB w'' wz.heap.size (.slice A 6 c) (.slice X m k9) 6 m (lnb o r p (k + 1)) ∧ Mor wz w'') by
          have h3 := post_yes A' 6 c' X' m' k' (lnb o r p k) ⟨kyB k, (k : Int) + 1, [(s20, f), (s10, -f)]⟩ (some ⟨gL, 0, none⟩) 2 2 wz hbq HLq.out (kyB_max k) (by rw [← HRw.out]; exact hpc)
          rw [hsj] at h3
          refine h3.mono fun e w'' h => ?_
          obtain ⟨A9, c9, X9, m9, k9, he, ho, hm9⟩ := postYes_own h (n := 6) (by rw [(post_ac _ _).1]; exact haj)
          rw [(post_ac _ _).2, hsj] at he
          exact ⟨A9, c9, X9, m9, k9, he, by rw [HNx.out, HRw.out]; exact ho, hm9⟩)
        clear hpc hbq hsj haj
        refine HPo.out.mono ?_
        rintro e w9 ⟨A9, c9, X9, m9, k9, rfl, ho9, hm9⟩
        have HW9 := Lib.hid (HBz.out.mor hm9)
        have HO9 := Lib.hid ho9
        have HM9 := Lib.hid (HMz.out.trans' hm9)
        have hbR9 := HRz.out.mor hm9
        have r2 := hbR9.cell 2
        have rl := hbR9.lt
        have HR9 := Lib.hid hbR9
        clear hm9 ho9 HPo b0 b1 b2 bl hbR9
        have b0 := HW9.out.cell 0
        have b1 := HW9.out.cell 1
        have b2 := HW9.out.cell 2
        have f0 := HW9.out.frozen 0
        have f1 := HW9.out.frozen 1
        have f2 := HW9.out.frozen 2
        have bl := HW9.out.lt
        simp at b0 b1 b2 r2
        -- the world behind the store
        have hbz9 : Bk (((w9.setCell ⟨bX, 0, none⟩ (.slice A9 6 c9)).setCell ⟨bX, 1, none⟩ (.slice X9 m9 k9)).setCell ⟨bX, 2, none⟩ (.int .i64 (-1))) bX 41 #[.slice A9 6 c9, .slice X9 m9 k9, .int .i64 (-1)] := by
          have := ((HW9.out.set_ 0 (.slice A9 6 c9)).set_ 1 (.slice X9 m9 k9)).set_ 2 (.int .i64 (-1)); simpa using this
        have hoz9 := own3 (a := .slice A9 6 c9) (a' := .slice X9 m9 k9) (a'' := .int .i64 (-1)) HO9.out HW9.out
        have hmz9 := ((HM9.out.setC (i := 0) (u := .slice A9 6 c9) hwX).setC (i := 1) (u := .slice X9 m9 k9) hwX).setC (i := 2) (u := .int .i64 (-1)) hwX
        have hRz9 := ((HR9.out.set_other bX 0 (.slice A9 6 c9) hRX).set_other bX 1 (.slice X9 m9 k9) hRX).set_other bX 2 (.int .i64 (-1)) hRX
        have hq9 := own_bq hoz9
        obtain ⟨e1, e2⟩ := HStp.out.1.led.bal top_has.2.2.1 (d := (k : Int) + 1) (by omega) (by omega)
        rw [HStp.out.1.a20 _ (by omega)] at e2
        have HBa := Lib.hid (fun w' (h : Mor (((w9.setCell ⟨bX, 0, none⟩ (.slice A9 6 c9)).setCell ⟨bX, 1, none⟩ (.slice X9 m9 k9)).setCell ⟨bX, 2, none⟩ (.int .i64 (-1))) w') => show Calls Try.prog 20 #[bv A9 6 c9 X9 m9 k9 (-1), .string s20, .int .i64 ((k : Int) + 1)] w' (fun e w'' => e = .returned (.tuple #[.int .i64 (-nl o r p (k + 1)), .int .i64 0]) ∧ Mor w' w'') from by
          have h2 := bal_any A9 6 c9 X9 m9 k9 _ s20 ((k : Int) + 1) w' (hq9.mor h)
          rw [HStp.out.1.led.sh, e1, e2] at h2
          exact h2)
        have HZ9 := Lib.hid (And.intro hbz9 (And.intro hoz9 (And.intro hmz9 hRz9)))
        have z2 := hRz9.cell 2
        simp at z2
        clear hbz9 hoz9 hmz9 hRz9 hq9 e1 e2
        go_wp2_with fail
        refine (HBa.out _ (Mor.refl _)).mono ?_
        rintro e w11 ⟨rfl, hm11⟩
        rw [HLf.out]
        have hR11 := HZ9.out.2.2.2.mor hm11
        have HM11 := Lib.hid hm11
        clear z2 r2 rl
        have z2 := hR11.cell 2
        have zl := hR11.lt
        simp at z2
        clear hR11 hm11
        go_wp2_with fail
        go_roundw
        case rel => exact ⟨k + 1, A9, c9, X9, m9, k9, by omega, by go_num, rfl, by rw [HSx.out]; rw [Int.add_zero], Lib.hid ⟨HZ9.out.1.mor HM11.out, ⟨_, HZ9.out.2.1.mor HM11.out⟩, HStp.out.1, HZ9.out.2.2.1.trans' HM11.out⟩⟩
        case measure => simp [intOf]; omega
      · have hip : 0 < ii := by omega
        have HRw := Lib.hid (show rwl f ii = [(s20, f), (s10, -f - ii), (s50, ii)] by unfold rwl; rw [if_pos hip])
        have hown8 : w8.ownsRow wR.heap.size 50 2 (.slice (some ⟨gL, 0, none⟩) 2 2) 2 (flat pc [(s20, f), (s10, -f)]) := ⟨rfl, .inr ⟨gL, 2, _, rfl, hgl8, hln8, Nat.le_refl _, by unfold maxLen; omega, rfl, rfl⟩⟩
        have HOw := Lib.hid hown8
        have HEb := Lib.hid hE
        have HmE := Lib.hid hmE
        have HBr8 := Lib.hid hbR
        have hsz8 : wR.heap.size ≤ w8.heap.size := hm8.below.size
        clear hln8 hgl8 hm8 hmR hmr8 hbR8 hbR hbx8 hE hmE hown8
        go_wp2_with (at_builtin; refine wpList_append_own _ rfl _ _ 45 rfl wR.heap.size 50 i0 (.agg #[.string { data := #[] }, .int .i64 0]) 2 24 Try.underlying45 hi hz0 hz1 hz2 rfl (by decide) _ _ _ rfl (((HOw.out).alloc _).alloc _) ⟨w8.heap.size + 1, 0, none⟩ 1 1 [.string s50, .int .i64 ii] rfl rfl ?_ ?_ ?_ ?_ ?_ ?_)
        · intro j u hj
          match j, hj with
          | 0, hj => simp at hj; subst hj; simp [Addr.add, go_sem]
          | 1, hj => simp at hj; subst hj; simp [Addr.add, go_sem]
        · intro u hu; simp at hu; rcases hu with rfl | rfl <;> rfl
        · unfold maxLen; omega
        · omega
        · simp; omega
        · intro v' w10 hown10 hgrow10 _
          have hmR10 := own_step (((HOw.out).alloc _).alloc _) ((HM8.out.alloc).alloc) hgrow10
          have hE10 := Bk.growT (HEb.out.alloc _) (((HOw.out).alloc _).alloc _) hgrow10 (by decide)
          obtain ⟨bE, hgE⟩ : ∃ g, g = w8.heap.size := ⟨_, rfl⟩
          have hwE : wR.heap.size ≤ bE := by omega
          rw [← hgE] at hE10 ⊢
          clear hgE
          obtain ⟨_, hh | ⟨gN, cN, cur, hv', hgN, hbN, hn1, hn2, hn3, hn4⟩⟩ := hown10
          · exact absurd hh.2 (by omega)
          subst hv'
          have hbN' : Bk w10 gN 50 cur := hbN
          have hNE := bk_ne hbN' hE10 (by decide)
          have hbR10 := HBr8.out.mor hmR10
          have hbx10 := HBr.out _ (HmR.out.trans' hmR10)
          have hRE := bk_ne hbR10 hE10 (by decide)
          have hRN := bk_ne hbR10 hbN' (by decide)
          have hXE := bk_ne hbx10 hE10 (by decide)
          have hXN := bk_ne hbx10 hbN' (by decide)
          have e0 := hE10.cell 0
          have e1 := hE10.cell 1
          have e2 := hE10.cell 2
          have fe2 := hE10.frozen 2
          have el := hE10.lt
          simp at e0 e1 e2
          have hE11 := hE10.set_ 2 (.slice (some ⟨gN, 0, none⟩) 3 cN)
          have hN11 := hbN'.set_other bE 2 (.slice (some ⟨gN, 0, none⟩) 3 cN) hNE
          have hR11 := hbR10.set_other bE 2 (.slice (some ⟨gN, 0, none⟩) 3 cN) hRE
          have hX11 := hbx10.set_other bE 2 (.slice (some ⟨gN, 0, none⟩) 3 cN) hXE
          have hm11 := hmR10.setC (i := 2) (u := .slice (some ⟨gN, 0, none⟩) 3 cN) hwE
          have hcur3 : cur[3]? = some (.int .i64 (-f)) := by
            have := congrArg (fun l : List Value => l[3]?) hn4
            simp only [List.getElem?_take] at this
            rw [if_pos (by omega), Array.getElem?_toList] at this
            rw [this]; rfl
          have l3 := hN11.cell 3
          rw [hcur3] at l3
          have fl3 := hN11.frozen 3
          have ll := hN11.lt
          have x2 := hE11.cell 2
          have x0 := hE11.cell 0
          have x1 := hE11.cell 1
          have xl := hE11.lt
          have q0' := hR11.cell 0
          have ql' := hR11.lt
          simp at x0 x1 x2 q0'
          have hwf : IntKind.i64.wrap (-f - ii) = -f - ii := IntWalk.i64_in _ (by omega)
          have hwf2 : IntKind.i64.wrap (-f) = -f := IntWalk.i64_in _ (by omega)
          have HE11 := Lib.hid hE11
          have HN11 := Lib.hid hN11
          have HR11 := Lib.hid hR11
          have HX11 := Lib.hid hX11
          have HM11 := Lib.hid hm11
          have HH4 := Lib.hid (And.intro hn3 hn4)
          have HcN := Lib.hid (And.intro hn1 hn2)
          have q0r := hbR10.cell 0
          have qlr := hbR10.lt
          have b0r := hbx10.cell 0
          have b1r := hbx10.cell 1
          have b2r := hbx10.cell 2
          have blr := hbx10.lt
          simp at q0r b0r b1r b2r
          clear hE11 hN11 hR11 hX11 hm11 hbN hbN' hn3 hn4 hcur3 q0 ql b0 b1 b2 bl hE10 hbR10 hbx10 hmR10 hgrow10 hz0 hz1 hz2 hi
          have hn63 : cN ≤ 9223372036854775807 := by unfold maxLen at hn2; omega
          go_wp2_with fail
          generalize w10.setCell ⟨bE, 2, none⟩ (.slice (some ⟨gN, 0, none⟩) 3 cN) = wq at *
          have hm12 := (HM11.out.setC (i := 3) (u := .int .i64 (-f - ii)) hgN).drew
          have HBz := Lib.hid (HX11.out.set_other gN 3 (.int .i64 (-f - ii)) hXN).drew
          have HOz := Lib.hid (HOr.out _ (HmR.out.trans' hm12))
          have HMz := Lib.hid (HMr.out.trans' (HmR.out.trans' hm12))
          have HRz := Lib.hid (HR11.out.set_other gN 3 (.int .i64 (-f - ii)) hRN).drew
          have hE12 := (HE11.out.set_other gN 3 (.int .i64 (-f - ii)) hNE.symm).drew
          have hown12 := own_setv (i := 3) (.int .i64 (-f - ii)) HN11.out hgN HcN.out.1 HcN.out.2 HH4.out.1 HH4.out.2 rfl
          have HLq := Lib.hid (show Lq (wq.setCell ⟨gN, 3, none⟩ (.int .i64 (-f - ii))).drew (some ⟨gN, 0, none⟩) 3 cN [(s20, f), (s10, -f - ii), (s50, ii)] from
            ⟨Si.of_rd (Rd.own hown12), rfl, HcN.out.1, HcN.out.2, (fun h => by cases h), fun i hi => by
              match i, hi with
              | 0, _ => unfold maxLen; show (2 : Nat) ≤ _; omega
              | 1, _ => unfold maxLen; show (2 : Nat) ≤ _; omega
              | 2, _ => unfold maxLen; show (2 : Nat) ≤ _; omega⟩)
          have y0 := hE12.cell 0
          have y1 := hE12.cell 1
          have y2 := hE12.cell 2
          have yl := hE12.lt
          have q0 := HRz.out.cell 0
          have ql := HRz.out.lt
          have b0 := HBz.out.cell 0
          have b1 := HBz.out.cell 1
          have b2 := HBz.out.cell 2
          have bl := HBz.out.lt
          simp at y0 y1 y2 q0 b0 b1 b2
          clear hm12 hE12 hown12
          go_region_with fail
          all_goals go_simp
          all_goals
            go_wp2_with fail
            generalize (wq.setCell ⟨gN, 3, none⟩ (.int .i64 (-f - ii))).drew = wz at *
            have hpc := HStp.out.2
            have hbq := own_bq HOz.out
            have hsj : (lnb o r p k).shut = -1 := HLi.out.led.sh
            have haj := hbq.ac.length
            have HPo := Lib.hid (show Calls Try.prog 19 #[bv A' 6 c' X' m' k' (-1), .agg #[.string (kyB k), .int .i64 ((k : Int) + 1), .slice (some ⟨gN, 0, none⟩) 3 cN]] wz (fun e w'' => ∃ A c X m k9, e = .returned (.tuple #[bv A 6 c X m k9 (-1), .int .i64 0]) ∧ OwnB w'' wz.heap.size (.slice A 6 c) (.slice X m k9) 6 m (lnb o r p (k + 1)) ∧ Mor wz w'') by
              have h3 := post_yes A' 6 c' X' m' k' (lnb o r p k) ⟨kyB k, (k : Int) + 1, [(s20, f), (s10, -f - ii), (s50, ii)]⟩ (some ⟨gN, 0, none⟩) 3 cN wz hbq HLq.out (kyB_max k) (by rw [← HRw.out]; exact hpc)
              rw [hsj] at h3
              refine h3.mono fun e w'' h => ?_
              obtain ⟨A9, c9, X9, m9, k9, he, ho, hm9⟩ := postYes_own h (n := 6) (by rw [(post_ac _ _).1]; exact haj)
              rw [(post_ac _ _).2, hsj] at he
              exact ⟨A9, c9, X9, m9, k9, he, by rw [HNx.out, HRw.out]; exact ho, hm9⟩)
            clear hpc hbq hsj haj
            refine HPo.out.mono ?_
            rintro e w9 ⟨A9, c9, X9, m9, k9, rfl, ho9, hm9⟩
            have HW9 := Lib.hid (HBz.out.mor hm9)
            have HO9 := Lib.hid ho9
            have HM9 := Lib.hid (HMz.out.trans' hm9)
            have hbR9 := HRz.out.mor hm9
            have r2 := hbR9.cell 2
            have rl := hbR9.lt
            have HR9 := Lib.hid hbR9
            clear hm9 ho9 HPo b0 b1 b2 bl hbR9
            have b0 := HW9.out.cell 0
            have b1 := HW9.out.cell 1
            have b2 := HW9.out.cell 2
            have f0 := HW9.out.frozen 0
            have f1 := HW9.out.frozen 1
            have f2 := HW9.out.frozen 2
            have bl := HW9.out.lt
            simp at b0 b1 b2 r2
            -- the world behind the store
            have hbz9 : Bk (((w9.setCell ⟨bX, 0, none⟩ (.slice A9 6 c9)).setCell ⟨bX, 1, none⟩ (.slice X9 m9 k9)).setCell ⟨bX, 2, none⟩ (.int .i64 (-1))) bX 41 #[.slice A9 6 c9, .slice X9 m9 k9, .int .i64 (-1)] := by
              have := ((HW9.out.set_ 0 (.slice A9 6 c9)).set_ 1 (.slice X9 m9 k9)).set_ 2 (.int .i64 (-1)); simpa using this
            have hoz9 := own3 (a := .slice A9 6 c9) (a' := .slice X9 m9 k9) (a'' := .int .i64 (-1)) HO9.out HW9.out
            have hmz9 := ((HM9.out.setC (i := 0) (u := .slice A9 6 c9) hwX).setC (i := 1) (u := .slice X9 m9 k9) hwX).setC (i := 2) (u := .int .i64 (-1)) hwX
            have hRz9 := ((HR9.out.set_other bX 0 (.slice A9 6 c9) hRX).set_other bX 1 (.slice X9 m9 k9) hRX).set_other bX 2 (.int .i64 (-1)) hRX
            have hq9 := own_bq hoz9
            obtain ⟨e1, e2⟩ := HStp.out.1.led.bal top_has.2.2.1 (d := (k : Int) + 1) (by omega) (by omega)
            rw [HStp.out.1.a20 _ (by omega)] at e2
            have HBa := Lib.hid (fun w' (h : Mor (((w9.setCell ⟨bX, 0, none⟩ (.slice A9 6 c9)).setCell ⟨bX, 1, none⟩ (.slice X9 m9 k9)).setCell ⟨bX, 2, none⟩ (.int .i64 (-1))) w') => show Calls Try.prog 20 #[bv A9 6 c9 X9 m9 k9 (-1), .string s20, .int .i64 ((k : Int) + 1)] w' (fun e w'' => e = .returned (.tuple #[.int .i64 (-nl o r p (k + 1)), .int .i64 0]) ∧ Mor w' w'') from by
              have h2 := bal_any A9 6 c9 X9 m9 k9 _ s20 ((k : Int) + 1) w' (hq9.mor h)
              rw [HStp.out.1.led.sh, e1, e2] at h2
              exact h2)
            have HZ9 := Lib.hid (And.intro hbz9 (And.intro hoz9 (And.intro hmz9 hRz9)))
            have z2 := hRz9.cell 2
            simp at z2
            clear hbz9 hoz9 hmz9 hRz9 hq9 e1 e2
            go_wp2_with fail
            refine (HBa.out _ (Mor.refl _)).mono ?_
            rintro e w11 ⟨rfl, hm11⟩
            rw [HLf.out]
            have hR11 := HZ9.out.2.2.2.mor hm11
            have HM11 := Lib.hid hm11
            clear z2 r2 rl
            have z2 := hR11.cell 2
            have zl := hR11.lt
            simp at z2
            clear hR11 hm11
            go_wp2_with fail
            go_roundw
            case rel => exact ⟨k + 1, A9, c9, X9, m9, k9, by omega, by go_num, rfl, by rw [HSx.out], Lib.hid ⟨HZ9.out.1.mor HM11.out, ⟨_, HZ9.out.2.1.mor HM11.out⟩, HStp.out.1, HZ9.out.2.2.1.trans' HM11.out⟩⟩
            case measure => simp [intOf]; omega
    · have ek : k = T := by omega
      subst ek
      obtain ⟨wL, rfl⟩ : ∃ wL, wL = wr := ⟨_, rfl⟩
      obtain ⟨hbx, ⟨B0, hob⟩, hli, hmr⟩ := HR.out
      obtain ⟨z1, z2, z3, z4, z5⟩ := hli.sheet (by omega)
      rw [HZe.out] at z1 z2
      have hq := own_bq hob
      obtain ⟨s0, s9⟩ := nsum_bd o r p (by omega) (by omega) hr0 hr9 HNl.out k
      have HSh := Lib.hid (fun w' (h : Mor wL w') => show Calls Try.prog 24 #[bv A' 6 c' X' m' k' (-1), .int .i64 50] w' (fun e w'' => ∃ wo : Int, e = .returned (.tuple #[.int .i64 (-nsum o r p k), .int .i64 0, .int .i64 wo, .int .i64 0]) ∧ Mor w' w'') from by
        have h2 := sheet_ok A' 6 c' X' m' k' _ 50 w' (hq.mor h) z4
        rw [hli.led.sh] at h2
        rw [z1, z2, show (0 : Int) - nsum o r p k = -nsum o r p k by omega] at h2
        exact h2.mono fun e w'' ⟨h3, h4⟩ => ⟨_, h3, h4⟩)
      have HPr := Lib.hid (fun w' (h : Mor wL w') => show Calls Try.prog 25 #[bv A' 6 c' X' m' k' (-1), .int .i64 0, .int .i64 50] w' (fun e w'' => e = .returned (.tuple #[.int .i64 (-nsum o r p k), .int .i64 0]) ∧ Mor w' w'') from by
        have h2 := profit_ok A' 6 c' X' m' k' _ 0 50 w' (hq.mor h) z5
        rw [hli.led.sh, z3] at h2
        exact h2)
      have HBx := Lib.hid (fun w' (h : Mor wL w') => hbx.mor h)
      have HMl := Lib.hid hmr
      have b0 := hbx.cell 0
      have b1 := hbx.cell 1
      have b2 := hbx.cell 2
      have bl := hbx.lt
      simp at b0 b1 b2
      clear hbx hob hli hmr z1 z2 z3 z4 z5 hq HR
      have hs9 : nsum o r p k ≤ 40000000000000 := by omega
      generalize nsum o r p k = N at *
      go_wp2_with fail
      refine (HSh.out _ (Mor.refl _)).mono ?_
      rintro e w8 ⟨wo, rfl, hm8⟩
      have HM8 := Lib.hid hm8
      have hb8 := HBx.out _ hm8
      clear b0 b1 b2 bl hm8
      have b0 := hb8.cell 0
      have b1 := hb8.cell 1
      have b2 := hb8.cell 2
      have bl := hb8.lt
      simp at b0 b1 b2
      clear hb8
      go_wp2_with fail
      refine (HPr.out _ HM8.out).mono ?_
      rintro e w9 ⟨rfl, hm9⟩
      go_wp2_with fail
      go_ret
      exact ⟨ret_b (by first | rfl | simp), (HM6.out.trans' (HMl.out.trans' (HM8.out.trans' hm9))).below⟩

end Go.Proofs.Ytdpphneebikdpaa.topLoan
