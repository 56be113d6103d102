/- symMergeCmpFunc at int, whole; the walks of stableCmpFunc and SortStableFunc at int, up to forty. -/
import Derived.Test.YtphkckonnogjmaaSuG
namespace Go.Proofs.Ytphkckonnogjmaa
open Go.ChangeShapes Go.WideShapes Go.ChangeAt Go.RowKit Stb
set_option linter.unusedVariables false

theorem sym_any (g N cap c : Nat) (cb : Array Value) (pe : Pr → Prop) (key : Pr → Int) (C : Pr → Pr → Int) (eg : ∀ args w, (callFunc c args).run Try.prog w = .ok (.enter c args) w) (hl : N ≤ 1000) (K : Nat) : SymIH g N cap c cb pe key C K := by
  induction K with
  | zero => intro a m b xs w h; omega
  | succ K ih =>
    intro a m b xs w hK h1 h2 h3 hs hp hd hN s1 s2
    have ih' : SymIH g N cap c cb pe key C (b - a) := fun a' m' b' xs' w' hK' => ih a' m' b' xs' w' (by omega)
    by_cases c1 : m = a + 1
    · subst c1; exact sym_l g N cap a b c cb pe key C xs w eg hs hp hd hN hl (by omega) h3 s2
    · by_cases c2 : b = m + 1
      · subst c2; exact sym_r g N cap a m c cb pe key C xs w eg hs hp hd hN hl (by omega) h3 s1
      · by_cases c3 : (a + b) / 2 < m
        · exact sym_gA g N cap a m b ((a + b) / 2) ((a + b) / 2 + m - b) ((a + b) / 2) c cb pe key C xs w eg hs hp hd hN hl (by omega) (by omega) h3 s1 s2 ih' rfl ⟨c3, rfl, rfl⟩
        · exact sym_gB g N cap a m b ((a + b) / 2) a m c cb pe key C xs w eg hs hp hd hN hl (by omega) (by omega) h3 s1 s2 ih' rfl ⟨by omega, rfl, rfl⟩

theorem two_mg {key : Pr → Int} {xs y1 y2 y3 : List Pr} {k n : Nat} (hk : k ≤ n) (h1 : Mg key xs y1 0 k) (h2 : Mg key y1 y2 k n) (h3 : Mg key y2 y3 0 n) : Mg key xs y3 0 n := by
  refine ⟨((h1.chg.wide (Nat.le_refl _) hk).trans (h2.chg.wide (Nat.zero_le _) (Nat.le_refl _))).trans h3.chg, h3.srt, h3.same.trans ?_⟩
  rw [seg_split y2 (Nat.zero_le k) hk, seg_split xs (Nat.zero_le k) hk]
  refine Same.append ?_ ?_
  · rw [h2.chg.seg (.inl (Nat.le_refl _))]; exact h1.same
  · refine h2.same.trans ?_
    rw [h1.chg.seg (.inr (Nat.le_refl _))]; exact Same.refl _
/-- sorted stably, in place -/
def StPost (w : World) (g : Nat) (key : Pr → Int) (xs : List Pr) (e : Ending) (w' : World) : Prop :=
  e = .returned (.tuple #[]) ∧ ∃ ys, ys.length = xs.length ∧ Srt key ys ∧ Same key ys xs ∧ Dat w' g ys ∧ On g w w'
theorem StPost.of {w w' : World} {g : Nat} {key : Pr → Int} {xs ys : List Pr} (h : Mg key xs ys 0 xs.length) (hd : Dat w' g ys) (ho : On g w w') : StPost w g key xs (.returned (.tuple #[])) w' := by
  have h1 := h.srt
  have h2 := h.same
  rw [seg_all ys h.chg.len] at h1 h2
  rw [seg_all xs rfl] at h2
  exact ⟨rfl, ys, h.chg.len, h1, h2, hd, ho⟩

section
variable (g n cap c : Nat) (cb : Array Value) (pe : Pr → Prop) (key : Pr → Int) (C : Pr → Pr → Int) (xs : List Pr) (w : World) (eg : ∀ args w, (callFunc c args).run Try.prog w = .ok (.enter c args) w) (hs : SaysC w g c cb pe key C) (hp : AllP pe xs) (hd : Dat w g xs) (hN : xs.length = n)
include eg hs hp hd hN

set_option maxRecDepth 100000 in
set_option maxHeartbeats 3200000 in
theorem stable_lo (hl : n < 20) : Calls Try.prog 45 #[.slice (some ⟨g, 0, none⟩) n cap, .int .i64 n, .func (.func c) #[] cb] w (StPost w g key xs) := by
  have HI : Calls Try.prog 51 #[.slice (some ⟨g, 0, none⟩) n cap, .int .i64 0, .int .i64 n, .func (.func c) #[] cb] w (ModPost w g (fun ys => Mg key xs ys 0 n)) :=
    ins_any g n cap 0 n c cb pe key C xs w eg hs hp hd hN (by omega) (Nat.zero_le _) (Nat.le_refl _)
  have HI' := Lib.hid HI
  have HN := Lib.hid hN
  have t1 : ¬ ((20 : Int) ≤ (n : Int)) := by omega
  have t2 : ¬ ((20 : Int) < (n : Int)) := by omega
  clear hs hp hd hN HI hl
  go_enter Try.func45, Try.ntmps45
  go_wp2_with fail
  refine wp_loop_rounds 1 ?_
  repeat (
    rw [rounds_succ]
    go_wp2_with (go_at_call 51; (with_reducible refine HI'.out.mono ?_); rintro r w1 ⟨rfl, ys, hm, hd, ho⟩))
  refine wp_loop_rounds 1 ?_
  repeat (
    rw [rounds_succ]
    go_wp2_with fail)
  go_end0
  exact StPost.of (by rw [HN.out]; exact hm) hd ho

set_option maxRecDepth 100000 in
set_option maxHeartbeats 3200000 in
theorem stable_20 (hl : n = 20) : Calls Try.prog 45 #[.slice (some ⟨g, 0, none⟩) n cap, .int .i64 n, .func (.func c) #[] cb] w (StPost w g key xs) := by
  subst hl
  have HI : Calls Try.prog 51 #[.slice (some ⟨g, 0, none⟩) 20 cap, .int .i64 0, .int .i64 20, .func (.func c) #[] cb] w (ModPost w g (fun ys => Mg key xs ys 0 20)) :=
    ins_any g 20 cap 0 20 c cb pe key C xs w eg hs hp hd hN (by omega) (Nat.zero_le _) (Nat.le_refl _)
  have HI' := Lib.hid HI
  have HN := Lib.hid hN
  have HE := Lib.hid (fun ys w' (hm : Mg key xs ys 0 20) (h : Dat w' g ys) (ho : On g w w') => show Calls Try.prog 51 #[.slice (some ⟨g, 0, none⟩) 20 cap, .int .i64 20, .int .i64 20, .func (.func c) #[] cb] w' (ModPost w' g (fun zs => Mg key ys zs 20 20)) from
    ins_any g 20 cap 20 20 c cb pe key C ys w' eg (hs.on ho) (hp.mg hm (by omega)) h (by rw [hm.chg.len, hN]) (by omega) (by omega) (Nat.le_refl _))
  clear hs hp hd hN HI
  go_enter Try.func45, Try.ntmps45
  go_wp2_with fail
  refine wp_loop_rounds 2 ?_
  repeat (
    rw [rounds_succ]
    go_wp2_with (first
      | (go_at_call 51; (with_reducible refine HI'.out.mono ?_); rintro r w1 ⟨rfl, ys, hm, hd, ho⟩; have HM := Lib.hid hm; have HD := Lib.hid hd; have HO := Lib.hid ho; clear hm hd ho)
      | (go_at_call 51; (with_reducible refine (HE.out _ _ HM.out HD.out HO.out).mono ?_); rintro r w2 ⟨rfl, zs, hm2, hd2, ho2⟩)))
  refine wp_loop_rounds 1 ?_
  repeat (
    rw [rounds_succ]
    go_wp2_with fail)
  go_end0
  refine StPost.of ?_ hd2 (HO.out.trans ho2)
  rw [HN.out]
  refine ⟨HM.out.chg.trans (hm2.chg.wide (Nat.zero_le _) (Nat.le_refl _)), ?_, ?_⟩
  · rw [hm2.chg.seg (.inl (Nat.le_refl _))]; exact HM.out.srt
  · rw [hm2.chg.seg (.inl (Nat.le_refl _))]; exact HM.out.same

set_option maxRecDepth 100000 in
set_option maxHeartbeats 3200000 in
theorem stable_mid (h1 : 20 < n) (h2 : n < 40) : Calls Try.prog 45 #[.slice (some ⟨g, 0, none⟩) n cap, .int .i64 n, .func (.func c) #[] cb] w (StPost w g key xs) := by
  have HI : Calls Try.prog 51 #[.slice (some ⟨g, 0, none⟩) n cap, .int .i64 0, .int .i64 20, .func (.func c) #[] cb] w (ModPost w g (fun ys => Mg key xs ys 0 20)) :=
    ins_any g n cap 0 20 c cb pe key C xs w eg hs hp hd hN (by omega) (Nat.zero_le _) (by omega)
  have HI' := Lib.hid HI
  have HN := Lib.hid hN
  have HE := Lib.hid (fun ys w' (hm : Mg key xs ys 0 20) (h : Dat w' g ys) (ho : On g w w') => show Calls Try.prog 51 #[.slice (some ⟨g, 0, none⟩) n cap, .int .i64 20, .int .i64 n, .func (.func c) #[] cb] w' (ModPost w' g (fun zs => Mg key ys zs 20 n)) from
    ins_any g n cap 20 n c cb pe key C ys w' eg (hs.on ho) (hp.mg hm (by omega)) h (by rw [hm.chg.len, hN]) (by omega) (by omega) (Nat.le_refl _))
  have HF := Lib.hid (fun ys zs w' (hm : Mg key xs ys 0 20) (hm2 : Mg key ys zs 20 n) (h : Dat w' g zs) (ho : On g w w') => show Calls Try.prog 52 #[.slice (some ⟨g, 0, none⟩) n cap, .int .i64 0, .int .i64 20, .int .i64 n, .func (.func c) #[] cb] w' (ModPost w' g (fun vs => Mg key zs vs 0 n)) from
    sym_any g n cap c cb pe key C eg (by omega) (n + 1) 0 20 n zs w' (by omega) (by omega) h1 (Nat.le_refl _) (hs.on ho) ((hp.mg hm (by omega)).mg hm2 (by rw [hm.chg.len]; omega)) h (by rw [hm2.chg.len, hm.chg.len, hN]) (by rw [hm2.chg.seg (.inl (Nat.le_refl _))]; exact hm.srt) hm2.srt)
  have t1 : (20 : Int) ≤ (n : Int) := by omega
  have t2 : ¬ ((40 : Int) ≤ (n : Int)) := by omega
  have t3 : (20 : Int) < (n : Int) := by omega
  have t4 : ¬ ((40 : Int) < (n : Int)) := by omega
  clear hs hp hd hN HI
  go_enter Try.func45, Try.ntmps45
  go_wp2_with fail
  refine wp_loop_rounds 2 ?_
  repeat (
    rw [rounds_succ]
    go_wp2_with (first
      | (go_at_call 51; (with_reducible refine HI'.out.mono ?_); rintro r w1 ⟨rfl, ys, hm, hd, ho⟩; have HM := Lib.hid hm; have HD := Lib.hid hd; have HO := Lib.hid ho; clear hm hd ho)
      | (go_at_call 51; (with_reducible refine (HE.out _ _ HM.out HD.out HO.out).mono ?_); rintro r w2 ⟨rfl, zs, hm2, hd2, ho2⟩; have HM2 := Lib.hid hm2; have HD2 := Lib.hid hd2; have HO2 := Lib.hid (HO.out.trans ho2); clear hm2 hd2 ho2)))
  refine wp_loop_rounds 2 ?_
  repeat (
    rw [rounds_succ]
    go_wp2_with fail)
  refine wp_loop_rounds 1 ?_
  repeat (
    rw [rounds_succ]
    go_wp2_with (first
      | (go_at_call 52; (with_reducible refine (HF.out _ _ _ HM.out HM2.out HD2.out HO2.out).mono ?_); rintro r w3 ⟨rfl, vs, hm3, hd3, ho3⟩; have HM3 := Lib.hid hm3; have HD3 := Lib.hid hd3; have HO3 := Lib.hid (HO2.out.trans ho3); clear hm3 hd3 ho3)))
  go_end0
  refine StPost.of ?_ HD3.out HO3.out
  rw [HN.out]
  exact two_mg (by omega) HM.out HM2.out HM3.out

set_option maxRecDepth 100000 in
set_option maxHeartbeats 3200000 in
theorem stable_40 (h1 : n = 40) : Calls Try.prog 45 #[.slice (some ⟨g, 0, none⟩) n cap, .int .i64 n, .func (.func c) #[] cb] w (StPost w g key xs) := by
  subst h1
  have HI : Calls Try.prog 51 #[.slice (some ⟨g, 0, none⟩) 40 cap, .int .i64 0, .int .i64 20, .func (.func c) #[] cb] w (ModPost w g (fun ys => Mg key xs ys 0 20)) :=
    ins_any g 40 cap 0 20 c cb pe key C xs w eg hs hp hd hN (by omega) (Nat.zero_le _) (by omega)
  have HI' := Lib.hid HI
  have HN := Lib.hid hN
  have HE := Lib.hid (fun ys w' (hm : Mg key xs ys 0 20) (h : Dat w' g ys) (ho : On g w w') => show Calls Try.prog 51 #[.slice (some ⟨g, 0, none⟩) 40 cap, .int .i64 20, .int .i64 40, .func (.func c) #[] cb] w' (ModPost w' g (fun zs => Mg key ys zs 20 40)) from
    ins_any g 40 cap 20 40 c cb pe key C ys w' eg (hs.on ho) (hp.mg hm (by omega)) h (by rw [hm.chg.len, hN]) (by omega) (by omega) (Nat.le_refl _))
  have HG := Lib.hid (fun ys zs w' (hm : Mg key xs ys 0 20) (hm2 : Mg key ys zs 20 40) (h : Dat w' g zs) (ho : On g w w') => show Calls Try.prog 51 #[.slice (some ⟨g, 0, none⟩) 40 cap, .int .i64 40, .int .i64 40, .func (.func c) #[] cb] w' (ModPost w' g (fun vs => Mg key zs vs 40 40)) from
    ins_any g 40 cap 40 40 c cb pe key C zs w' eg (hs.on ho) ((hp.mg hm (by omega)).mg hm2 (by rw [hm.chg.len]; omega)) h (by rw [hm2.chg.len, hm.chg.len, hN]) (by omega) (by omega) (Nat.le_refl _))
  have HF := Lib.hid (fun ys zs w' (hm : Mg key xs ys 0 20) (hm2 : Mg key ys zs 20 40) (h : Dat w' g zs) (ho : On g w w') => show Calls Try.prog 52 #[.slice (some ⟨g, 0, none⟩) 40 cap, .int .i64 0, .int .i64 20, .int .i64 40, .func (.func c) #[] cb] w' (ModPost w' g (fun vs => Mg key zs vs 0 40)) from
    sym_any g 40 cap c cb pe key C eg (by omega) (40 + 1) 0 20 40 zs w' (by omega) (by omega) (by omega) (Nat.le_refl _) (hs.on ho) ((hp.mg hm (by omega)).mg hm2 (by rw [hm.chg.len]; omega)) h (by rw [hm2.chg.len, hm.chg.len, hN]) (by rw [hm2.chg.seg (.inl (Nat.le_refl _))]; exact hm.srt) hm2.srt)
  have HX := Lib.hid (fun (y z v : List Pr) (h : Mg key y z 20 40) (h' : Mg key z v 40 40) => show Mg key y v 20 40 from by
    refine ⟨h.chg.trans (h'.chg.wide (by omega) (Nat.le_refl _)), ?_, ?_⟩
    · rw [h'.chg.seg (.inl (Nat.le_refl _))]; exact h.srt
    · rw [h'.chg.seg (.inl (Nat.le_refl _))]; exact h.same)
  clear hs hp hd hN HI
  go_enter Try.func45, Try.ntmps45
  go_wp2_with fail
  refine wp_loop_rounds 3 ?_
  repeat (
    rw [rounds_succ]
    go_wp2_with (first
      | (go_at_call 51; (with_reducible refine HI'.out.mono ?_); rintro r w1 ⟨rfl, ys, hm, hd, ho⟩; have HM := Lib.hid hm; have HD := Lib.hid hd; have HO := Lib.hid ho; clear hm hd ho)
      | (go_at_call 51; (with_reducible refine (HE.out _ _ HM.out HD.out HO.out).mono ?_); rintro r w2 ⟨rfl, zs, hm2, hd2, ho2⟩; have HM2 := Lib.hid hm2; have HD2 := Lib.hid hd2; have HO2 := Lib.hid (HO.out.trans ho2); clear hm2 hd2 ho2)
      | (go_at_call 51; (with_reducible refine (HG.out _ _ _ HM.out HM2.out HD2.out HO2.out).mono ?_); rintro r w3 ⟨rfl, vs, hm3, hd3, ho3⟩; have HM3 := Lib.hid (HX.out _ _ _ HM2.out hm3); have HD3 := Lib.hid hd3; have HO3 := Lib.hid (HO2.out.trans ho3); clear hm3 hd3 ho3)))
  refine wp_loop_rounds 2 ?_
  repeat (
    rw [rounds_succ]
    go_wp2_with fail)
  refine wp_loop_rounds 2 ?_
  repeat (
    rw [rounds_succ]
    go_wp2_with (first
      | (go_at_call 52; (with_reducible refine (HF.out _ _ _ HM.out HM3.out HD3.out HO3.out).mono ?_); rintro r w4 ⟨rfl, us, hm4, hd4, ho4⟩; have HM4 := Lib.hid hm4; have HD4 := Lib.hid hd4; have HO4 := Lib.hid (HO3.out.trans ho4); clear hm4 hd4 ho4)))
  go_end0
  refine StPost.of ?_ HD4.out HO4.out
  rw [HN.out]
  exact two_mg (by omega) HM.out HM3.out HM4.out

theorem stable_any (hl : n ≤ 40) : Calls Try.prog 45 #[.slice (some ⟨g, 0, none⟩) n cap, .int .i64 n, .func (.func c) #[] cb] w (StPost w g key xs) := by
  by_cases c1 : n < 20
  · exact stable_lo g n cap c cb pe key C xs w eg hs hp hd hN c1
  · by_cases c2 : n = 20
    · exact stable_20 g n cap c cb pe key C xs w eg hs hp hd hN c2
    · by_cases c3 : n < 40
      · exact stable_mid g n cap c cb pe key C xs w eg hs hp hd hN (by omega) c3
      · exact stable_40 g n cap c cb pe key C xs w eg hs hp hd hN (by omega)

set_option maxHeartbeats 1600000 in
theorem sortStable_int (hl : n ≤ 40) : Calls Try.prog 32 #[.slice (some ⟨g, 0, none⟩) n cap, .func (.func c) #[] cb] w (StPost w g key xs) := by
  have HS := Lib.hid (stable_any g n cap c cb pe key C xs w eg hs hp hd hN hl)
  clear hs hp hd hN
  go_enter Try.func32, Try.ntmps32
  go_wp2_with (first
    | (go_at_call 45; (with_reducible refine HS.out.mono ?_); rintro r w1 ⟨rfl, hh⟩))
  go_end0
  exact ⟨rfl, hh⟩
end

end Go.Proofs.Ytphkckonnogjmaa
