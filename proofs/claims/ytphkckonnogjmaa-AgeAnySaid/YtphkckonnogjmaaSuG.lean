/- The walk of symMergeCmpFunc at int: the general case and the whole. -/
import Derived.Test.YtphkckonnogjmaaSuF
namespace Go.Proofs.Ytphkckonnogjmaa
open Go.ChangeShapes Go.WideShapes Go.ChangeAt Go.RowKit Stb
set_option linter.unusedVariables false

set_option maxRecDepth 100000 in
set_option maxHeartbeats 6400000 in
theorem sym_gA (g N cap a m b mid lo r0 c : Nat) (cb : Array Value) (pe : Pr → Prop) (key : Pr → Int) (C : Pr → Pr → Int) (xs : List Pr) (w : World) (eg : ∀ args w, (callFunc c args).run Try.prog w = .ok (.enter c args) w) (hs : SaysC w g c cb pe key C) (hp : AllP pe xs) (hd : Dat w g xs) (hN : xs.length = N) (hl : N ≤ 1000)
    (h1 : a + 1 < m) (h2 : m + 1 < b) (h3 : b ≤ N) (s1 : Srt key (seg xs a m)) (s2 : Srt key (seg xs m b)) (IH : SymIH g N cap c cb pe key C (b - a)) (hmid : mid = (a + b) / 2) (hlo : mid < m ∧ lo = mid + m - b ∧ r0 = mid) :
    Calls Try.prog 52 #[.slice (some ⟨g, 0, none⟩) N cap, .int .i64 a, .int .i64 m, .int .i64 b, .func (.func c) #[] cb] w (ModPost w g (fun ys => Mg key xs ys a b)) := by
  have HD := Lib.hid hd
  have HN := Lib.hid hN
  have HS := Lib.hid hs
  have HP := Lib.hid hp
  have HS1 := Lib.hid s1
  have HS2 := Lib.hid s2
  have HIH := Lib.hid IH
  have hI1 := Lib.hid ((srt_seg (key := key) (show m ≤ xs.length by omega)).1 s1)
  have hI2 := Lib.hid ((srt_seg (key := key) (show b ≤ xs.length by omega)).1 s2)
  have hbx := Lib.hid (show b ≤ xs.length by omega)
  clear hd hN hs hp s1 s2 IH
  obtain ⟨hlo1, hlo2, hlo3⟩ := hlo
  obtain ⟨d1, hd1⟩ : ∃ d, d = m - a := ⟨_, rfl⟩
  obtain ⟨d2, hd2⟩ : ∃ d, d = b - m := ⟨_, rfl⟩
  obtain ⟨nn, hnn⟩ : ∃ nn, nn = mid + m := ⟨_, rfl⟩
  obtain ⟨p, hp⟩ : ∃ p, p = nn - 1 := ⟨_, rfl⟩
  have ed1 : (m : Int) - (a : Int) = (d1 : Int) := by omega
  have ed2 : (b : Int) - (m : Int) = (d2 : Int) := by omega
  have ed3 : ((d1 : Int) == 1) = false := by simp; omega
  have ed4 : ((d2 : Int) == 1) = false := by simp; omega
  have em : ((a : Int) + (b : Int)) / 2 = (mid : Int) := by omega
  have en : (mid : Int) + (m : Int) = (nn : Int) := by omega
  have ep : (nn : Int) - 1 = (p : Int) := by omega
  have wp' : IntKind.i64.wrap (p : Int) = (p : Int) := IntWalk.i64_in _ (by omega)
  have wn' : IntKind.i64.wrap (nn : Int) = (nn : Int) := IntWalk.i64_in _ (by omega)
  have hmm : (mid : Int) < (m : Int) := by omega
  have elo : (nn : Int) - (b : Int) = (lo : Int) := by omega
  have er0 : mid = r0 := by omega
  have HEr := Lib.hid er0
  clear er0
  have wl' : IntKind.i64.wrap (lo : Int) = (lo : Int) := IntWalk.i64_in _ (by omega)
  have F1 : a ≤ lo := by omega
  have F2 : lo ≤ r0 := by omega
  have F3 : r0 ≤ mid := by omega
  have F4 : r0 ≤ m := by omega
  have F5 : nn ≤ b + lo := by omega
  have F6 : mid < b := by omega
  have F7 : a < mid := by omega
  have F8 : r0 = mid ∨ r0 = m := by omega
  have F9 : lo + b = nn ∨ lo = a := by omega
  have F10 : 1 ≤ nn := by omega
  have HNN := Lib.hid hnn
  have HPP := Lib.hid hp
  clear hd1 hd2 hnn hmid hp hlo1 hlo2 hlo3
  go_enter Try.func52, Try.ntmps52
  go_wp2
  go_loopw [20, 21] (fun vi vj wr => ∃ i j : Nat, vi = .int .i64 i ∧ vj = .int .i64 j ∧ lo ≤ i ∧ i ≤ j ∧ j ≤ r0 ∧ Hid (∀ k, lo ≤ k → k < i → key (ge xs k) ≤ key (ge xs (p - k))) ∧ Hid (∀ k, j ≤ k → k < r0 → key (ge xs (p - k)) < key (ge xs k)) ∧ Hid (Dat wr g xs) ∧ Hid (On g w wr)) (fun vi vj _ => (intOf vj - intOf vi).toNat)
  case atStart => exact ⟨lo, r0, rfl, (by rw [HEr.out]), Nat.le_refl _, F2, Nat.le_refl _, Lib.hid (fun k h1 h2 => by omega), Lib.hid (fun k h1 h2 => by omega), HD, Lib.hid (On.refl _ _)⟩
  case round =>
    obtain ⟨i, j, rfl, rfl, i1, i2, i3, HA, HB, HY, HO⟩ := hrel
    by_cases hlt : i < j
    · have hki : (i : Int) < (j : Int) := by omega
      obtain ⟨h, hh⟩ : ∃ h : Nat, h = (i + j) / 2 := ⟨_, rfl⟩
      have hm1 : ((i : Int) + (j : Int)) / 2 = (h : Int) := by omega
      have b1 : i ≤ h := by omega
      have b2 : h < j := by omega
      obtain ⟨q, hq⟩ : ∃ q : Nat, q = p - h := ⟨_, rfl⟩
      have hpn : p + 1 = mid + m := by have := HNN.out; have := HPP.out; omega
      have eq' : (p : Int) - (h : Int) = (q : Int) := by omega
      have wq : IntKind.i64.wrap (q : Int) = (q : Int) := IntWalk.i64_in _ (by omega)
      have h0 : (0 : Int) ≤ (h : Int) := by omega
      have hN' : (h : Int) < (N : Int) := by omega
      have q0 : (0 : Int) ≤ (q : Int) := by omega
      have qN : (q : Int) < (N : Int) := by omega
      obtain ⟨ch, ch'⟩ := HY.out.cell h (by rw [HN.out]; omega)
      obtain ⟨cq, cq'⟩ := HY.out.cell q (by rw [HN.out]; omega)
      have HKp := Lib.hid (fun w' (o : Mor wr w') => show w'.cell? ⟨g, q * 2, none⟩ = some (.int .i64 (ge xs q).1) ∧ w'.cell? ⟨g, q * 2 + 1, none⟩ = some (.int .i64 (ge xs q).2) ∧ w'.cell? ⟨g, h * 2, none⟩ = some (.int .i64 (ge xs h).1) ∧ w'.cell? ⟨g, h * 2 + 1, none⟩ = some (.int .i64 (ge xs h).2) from ⟨((HY.out.mor o).cell q (by rw [HN.out]; omega)).1, ((HY.out.mor o).cell q (by rw [HN.out]; omega)).2, ((HY.out.mor o).cell h (by rw [HN.out]; omega)).1, ((HY.out.mor o).cell h (by rw [HN.out]; omega)).2⟩)
      have HCmp := Lib.hid (fun w' (o : On g wr w') => HS.out.says w' (HO.out.trans o) (ge xs q) (ge xs h) (HP.out q (by rw [HN.out]; omega)) (HP.out h (by rw [HN.out]; omega)))
      have hsg := HS.out.sign (ge xs q) (ge xs h) (HP.out q (by rw [HN.out]; omega)) (HP.out h (by rw [HN.out]; omega))
      have HHi := Lib.hid (fun hv : key (ge xs q) < key (ge xs h) => show ∀ k, h ≤ k → k < r0 → key (ge xs (p - k)) < key (ge xs k) from fun k k1 k2 => by
        by_cases e : k = h
        · subst e; rw [← hq]; exact hv
        · have e1 := hI1.out h k (by omega) (by omega) (by omega)
          have e2 := hI2.out (p - k) q (by omega) (by omega) (by omega)
          omega)
      have HLo := Lib.hid (fun hv : ¬ key (ge xs q) < key (ge xs h) => show ∀ k, lo ≤ k → k < h + 1 → key (ge xs k) ≤ key (ge xs (p - k)) from fun k k1 k2 => by
        by_cases e : k = h
        · subst e; rw [← hq]; omega
        · have e1 := hI1.out k h (by omega) (by omega) (by omega)
          have e2 := hI2.out q (p - k) (by omega) (by omega) (by omega)
          omega)
      clear hh hq hpn
      generalize C (ge xs q) (ge xs h) = cv at *
      by_cases hk : key (ge xs q) < key (ge xs h)
      · have HH' := Lib.hid (HHi.out hk)
        have hvb : (!decide (cv < 0)) = false := by simp; exact hsg.2 hk
        clear hk hsg HHi HLo
        generalize ge xs h = u at *
        generalize ge xs q = v at *
        go_wp2
        go_region_held3 (fun w' => w'.cell? ⟨g, q * 2, none⟩ = some (.int .i64 v.1) ∧ w'.cell? ⟨g, q * 2 + 1, none⟩ = some (.int .i64 v.2) ∧ w'.cell? ⟨g, h * 2, none⟩ = some (.int .i64 u.1) ∧ w'.cell? ⟨g, h * 2 + 1, none⟩ = some (.int .i64 u.2)) (exact HKp.out _ (by repeat (first | exact Mor.refl _ | apply Mor.alloc | apply Mor.more | apply Mor.drewN | apply Mor.drew))) (first | (go_at_fn c; (with_reducible refine (HCmp.out _ (On.of_mor (by repeat (first | exact Mor.refl _ | apply Mor.alloc | apply Mor.more | apply Mor.drewN | apply Mor.drew)))).mono ?_); rintro e w1 ⟨rfl, bs, dr, rfl⟩))
        go_wp2
        go_roundw
        case rel => exact ⟨i, h, rfl, rfl, i1, b1, by omega, HA, HH', Lib.hid (Dat.mor HY.out (by repeat (first | exact Mor.refl _ | apply Mor.alloc | apply Mor.more | apply Mor.drewN | apply Mor.drew))), Lib.hid (On.mor HO.out (by repeat (first | exact Mor.refl _ | apply Mor.alloc | apply Mor.more | apply Mor.drewN | apply Mor.drew)))⟩
        case measure => simp [intOf]; omega
      · have HL' := Lib.hid (HLo.out hk)
        have hvb : (!decide (cv < 0)) = true := by simp; exact Int.not_lt.1 (fun h => hk (hsg.1 h))
        clear hk hsg HHi HLo
        generalize ge xs h = u at *
        generalize ge xs q = v at *
        go_wp2
        go_region_held3 (fun w' => w'.cell? ⟨g, q * 2, none⟩ = some (.int .i64 v.1) ∧ w'.cell? ⟨g, q * 2 + 1, none⟩ = some (.int .i64 v.2) ∧ w'.cell? ⟨g, h * 2, none⟩ = some (.int .i64 u.1) ∧ w'.cell? ⟨g, h * 2 + 1, none⟩ = some (.int .i64 u.2)) (exact HKp.out _ (by repeat (first | exact Mor.refl _ | apply Mor.alloc | apply Mor.more | apply Mor.drewN | apply Mor.drew))) (first | (go_at_fn c; (with_reducible refine (HCmp.out _ (On.of_mor (by repeat (first | exact Mor.refl _ | apply Mor.alloc | apply Mor.more | apply Mor.drewN | apply Mor.drew)))).mono ?_); rintro e w1 ⟨rfl, bs, dr, rfl⟩))
        go_wp2
        go_roundw
        case rel => exact ⟨h + 1, j, by go_num, rfl, by omega, by omega, i3, HL', HB, Lib.hid (Dat.mor HY.out (by repeat (first | exact Mor.refl _ | apply Mor.alloc | apply Mor.more | apply Mor.drewN | apply Mor.drew))), Lib.hid (On.mor HO.out (by repeat (first | exact Mor.refl _ | apply Mor.alloc | apply Mor.more | apply Mor.drewN | apply Mor.drew)))⟩
        case measure => simp [intOf]; omega
    · obtain rfl : j = i := by omega
      obtain ⟨s, hs⟩ : ∃ s, s = j := ⟨_, rfl⟩
      rw [← hs] at HA HB i1 i3 ⊢
      clear hs hlt i2
      obtain ⟨e, he⟩ : ∃ e, e = nn - s := ⟨_, rfl⟩
      have hpn : p + 1 = nn ∧ nn = mid + m := by have := HNN.out; have := HPP.out; omega
      have ee : (nn : Int) - (s : Int) = (e : Int) := by omega
      have we : IntKind.i64.wrap (e : Int) = (e : Int) := IntWalk.i64_in _ (by omega)
      have X1 : a ≤ s := by omega
      have X2 : s ≤ m := by omega
      have X3 : s ≤ mid := by omega
      have X4 : m ≤ e := by omega
      have X5 : mid ≤ e := by omega
      have X6 : e ≤ b := by omega
      have X7 : mid + m = s + e := by omega
      have C1 := Lib.hid (fun (q1 : s < m) (q2 : m < e) => show key (ge xs (e - 1)) < key (ge xs s) by
        have := HB.out s (Nat.le_refl _) (by omega)
        rw [show p - s = e - 1 by omega] at this; exact this)
      have C2 := Lib.hid (fun (q1 : a < s) (q2 : e < b) => show key (ge xs (s - 1)) ≤ key (ge xs e) by
        have := HA.out (s - 1) (by omega) (by omega)
        rw [show p - (s - 1) = e by omega] at this; exact this)
      have HFin := Lib.hid (fun w' (h : SymC key xs g a m b s e mid w w') => show ∃ ys, Mg key xs ys a b ∧ Dat w' g ys ∧ On g w w' by
        obtain ⟨zs, us, vs, hr, hu, hv, hd, ho⟩ := h
        exact ⟨vs, sym_plain X1 X2 X3 X4 X5 X6 hbx.out X7 HS1.out HS2.out C1.out C2.out hr hu hv, hd, ho⟩)
      have HNo := Lib.hid (fun (h : ¬ (s < m ∧ m < e)) => show SymA xs g m s e w wr from symA_none X2 X4 h HY.out HO.out)
      have HRot := Lib.hid (fun (q1 : s < m) (q2 : m < e) => show Calls Try.prog 57 #[.slice (some ⟨g, 0, none⟩) N cap, .int .i64 s, .int .i64 m, .int .i64 e, .func (.func c) #[] cb] wr (fun r w'' => r = .returned (.tuple #[]) ∧ SymA xs g m s e w w'') by
        refine (rot_any g N cap s m e _ xs wr HY.out HN.out hl q1 q2 (by omega)).mono ?_
        rintro r w'' ⟨rfl, ys, hr, hd, ho⟩
        exact ⟨rfl, ys, hr, hd, HO.out.trans ho⟩)
      have HB0 := Lib.hid (fun w' (h : ¬ (a < s ∧ s < mid)) (hA : SymA xs g m s e w w') => symB_none X1 X2 X3 X4 X5 X6 hbx.out X7 HS1.out HS2.out h hA)
      have HC0 := Lib.hid (fun w' (h : ¬ (mid < e ∧ e < b)) (hB : SymB key xs g a m s e mid w w') => symC_none X1 X2 X3 X4 X5 X6 hbx.out X7 HS1.out HS2.out h hB)
      have HB1 := Lib.hid (fun w' (l1 : a < s) (l2 : s < mid) (hA : SymA xs g m s e w w') => symB_call X1 X2 X3 X4 X5 X6 hbx.out X7 HS1.out HS2.out HS.out HP.out HN.out HIH.out l1 l2 F6 hA)
      have HC1 := Lib.hid (fun w' (l1 : mid < e) (l2 : e < b) (hB : SymB key xs g a m s e mid w w') => symC_call X1 X2 X3 X4 X5 X6 hbx.out X7 HS1.out HS2.out HS.out HP.out HN.out HIH.out l1 l2 F7 hB)
      clear he hpn HA HB C1 C2 HS1 HS2 HIH hI1 hI2
      by_cases t1 : (s : Int) < (m : Int) <;> by_cases t2 : (m : Int) < (e : Int) <;> by_cases t3 : (a : Int) < (s : Int) <;> by_cases t6 : (e : Int) < (b : Int) <;> (
        (first | have t4 : (s : Int) < (mid : Int) := by omega | have t4 : ¬ ((s : Int) < (mid : Int)) := by omega)
        (first | have t5 : (mid : Int) < (e : Int) := by omega | have t5 : ¬ ((mid : Int) < (e : Int)) := by omega)
        have HSa := Lib.hid trivial
        have HSb := Lib.hid trivial
        have HSc := Lib.hid trivial
        go_wp2_with (first
          | (go_at_call 57; (with_reducible refine (HRot.out (by omega) (by omega)).mono ?_); rintro r w2 ⟨rfl, hA⟩; have HSa := Lib.hid hA; clear hA)
          | (go_at_call 52; (with_reducible refine (HB1.out _ (by omega) (by omega) (by first | exact HSa.out | exact HNo.out (by omega))).mono ?_); rintro r w3 ⟨rfl, hB⟩; have HSb := Lib.hid hB; clear hB)
          | (go_at_call 52; (with_reducible refine (HC1.out _ (by omega) (by omega) (by first | exact HSb.out | exact HB0.out _ (by omega) HSa.out | exact HB0.out _ (by omega) (HNo.out (by omega)))).mono ?_); rintro r w4 ⟨rfl, hC⟩; have HSc := Lib.hid hC; clear hC))
        all_goals (first | go_end0 | go_returns)
        all_goals refine ⟨rfl, HFin.out _ ?_⟩
        all_goals first
          | exact HSc.out
          | exact HC0.out _ (by omega) HSb.out
          | exact HC0.out _ (by omega) (HB0.out _ (by omega) HSa.out)
          | exact HC0.out _ (by omega) (HB0.out _ (by omega) (HNo.out (by omega))))

set_option maxRecDepth 100000 in
set_option maxHeartbeats 6400000 in
theorem sym_gB (g N cap a m b mid lo r0 c : Nat) (cb : Array Value) (pe : Pr → Prop) (key : Pr → Int) (C : Pr → Pr → Int) (xs : List Pr) (w : World) (eg : ∀ args w, (callFunc c args).run Try.prog w = .ok (.enter c args) w) (hs : SaysC w g c cb pe key C) (hp : AllP pe xs) (hd : Dat w g xs) (hN : xs.length = N) (hl : N ≤ 1000)
    (h1 : a + 1 < m) (h2 : m + 1 < b) (h3 : b ≤ N) (s1 : Srt key (seg xs a m)) (s2 : Srt key (seg xs m b)) (IH : SymIH g N cap c cb pe key C (b - a)) (hmid : mid = (a + b) / 2) (hlo : m ≤ mid ∧ lo = a ∧ r0 = m) :
    Calls Try.prog 52 #[.slice (some ⟨g, 0, none⟩) N cap, .int .i64 a, .int .i64 m, .int .i64 b, .func (.func c) #[] cb] w (ModPost w g (fun ys => Mg key xs ys a b)) := by
  have HD := Lib.hid hd
  have HN := Lib.hid hN
  have HS := Lib.hid hs
  have HP := Lib.hid hp
  have HS1 := Lib.hid s1
  have HS2 := Lib.hid s2
  have HIH := Lib.hid IH
  have hI1 := Lib.hid ((srt_seg (key := key) (show m ≤ xs.length by omega)).1 s1)
  have hI2 := Lib.hid ((srt_seg (key := key) (show b ≤ xs.length by omega)).1 s2)
  have hbx := Lib.hid (show b ≤ xs.length by omega)
  clear hd hN hs hp s1 s2 IH
  obtain ⟨hlo1, hlo2, hlo3⟩ := hlo
  obtain ⟨d1, hd1⟩ : ∃ d, d = m - a := ⟨_, rfl⟩
  obtain ⟨d2, hd2⟩ : ∃ d, d = b - m := ⟨_, rfl⟩
  obtain ⟨nn, hnn⟩ : ∃ nn, nn = mid + m := ⟨_, rfl⟩
  obtain ⟨p, hp⟩ : ∃ p, p = nn - 1 := ⟨_, rfl⟩
  have ed1 : (m : Int) - (a : Int) = (d1 : Int) := by omega
  have ed2 : (b : Int) - (m : Int) = (d2 : Int) := by omega
  have ed3 : ((d1 : Int) == 1) = false := by simp; omega
  have ed4 : ((d2 : Int) == 1) = false := by simp; omega
  have em : ((a : Int) + (b : Int)) / 2 = (mid : Int) := by omega
  have en : (mid : Int) + (m : Int) = (nn : Int) := by omega
  have ep : (nn : Int) - 1 = (p : Int) := by omega
  have wp' : IntKind.i64.wrap (p : Int) = (p : Int) := IntWalk.i64_in _ (by omega)
  have wn' : IntKind.i64.wrap (nn : Int) = (nn : Int) := IntWalk.i64_in _ (by omega)
  have hmm : ¬ ((mid : Int) < (m : Int)) := by omega
  have HEl := Lib.hid (show a = lo by omega)
  have HEr := Lib.hid (show m = r0 by omega)
  have F1 : a ≤ lo := by omega
  have F2 : lo ≤ r0 := by omega
  have F3 : r0 ≤ mid := by omega
  have F4 : r0 ≤ m := by omega
  have F5 : nn ≤ b + lo := by omega
  have F6 : mid < b := by omega
  have F7 : a < mid := by omega
  have F8 : r0 = mid ∨ r0 = m := by omega
  have F9 : lo + b = nn ∨ lo = a := by omega
  have F10 : 1 ≤ nn := by omega
  have HNN := Lib.hid hnn
  have HPP := Lib.hid hp
  clear hd1 hd2 hnn hmid hp hlo1 hlo2 hlo3
  go_enter Try.func52, Try.ntmps52
  go_wp2
  go_loopw [20, 21] (fun vi vj wr => ∃ i j : Nat, vi = .int .i64 i ∧ vj = .int .i64 j ∧ lo ≤ i ∧ i ≤ j ∧ j ≤ r0 ∧ Hid (∀ k, lo ≤ k → k < i → key (ge xs k) ≤ key (ge xs (p - k))) ∧ Hid (∀ k, j ≤ k → k < r0 → key (ge xs (p - k)) < key (ge xs k)) ∧ Hid (Dat wr g xs) ∧ Hid (On g w wr)) (fun vi vj _ => (intOf vj - intOf vi).toNat)
  case atStart => exact ⟨lo, r0, (by rw [HEl.out]), (by rw [HEr.out]), Nat.le_refl _, F2, Nat.le_refl _, Lib.hid (fun k h1 h2 => by omega), Lib.hid (fun k h1 h2 => by omega), HD, Lib.hid (On.refl _ _)⟩
  case round =>
    obtain ⟨i, j, rfl, rfl, i1, i2, i3, HA, HB, HY, HO⟩ := hrel
    by_cases hlt : i < j
    · have hki : (i : Int) < (j : Int) := by omega
      obtain ⟨h, hh⟩ : ∃ h : Nat, h = (i + j) / 2 := ⟨_, rfl⟩
      have hm1 : ((i : Int) + (j : Int)) / 2 = (h : Int) := by omega
      have b1 : i ≤ h := by omega
      have b2 : h < j := by omega
      obtain ⟨q, hq⟩ : ∃ q : Nat, q = p - h := ⟨_, rfl⟩
      have hpn : p + 1 = mid + m := by have := HNN.out; have := HPP.out; omega
      have eq' : (p : Int) - (h : Int) = (q : Int) := by omega
      have wq : IntKind.i64.wrap (q : Int) = (q : Int) := IntWalk.i64_in _ (by omega)
      have h0 : (0 : Int) ≤ (h : Int) := by omega
      have hN' : (h : Int) < (N : Int) := by omega
      have q0 : (0 : Int) ≤ (q : Int) := by omega
      have qN : (q : Int) < (N : Int) := by omega
      obtain ⟨ch, ch'⟩ := HY.out.cell h (by rw [HN.out]; omega)
      obtain ⟨cq, cq'⟩ := HY.out.cell q (by rw [HN.out]; omega)
      have HKp := Lib.hid (fun w' (o : Mor wr w') => show w'.cell? ⟨g, q * 2, none⟩ = some (.int .i64 (ge xs q).1) ∧ w'.cell? ⟨g, q * 2 + 1, none⟩ = some (.int .i64 (ge xs q).2) ∧ w'.cell? ⟨g, h * 2, none⟩ = some (.int .i64 (ge xs h).1) ∧ w'.cell? ⟨g, h * 2 + 1, none⟩ = some (.int .i64 (ge xs h).2) from ⟨((HY.out.mor o).cell q (by rw [HN.out]; omega)).1, ((HY.out.mor o).cell q (by rw [HN.out]; omega)).2, ((HY.out.mor o).cell h (by rw [HN.out]; omega)).1, ((HY.out.mor o).cell h (by rw [HN.out]; omega)).2⟩)
      have HCmp := Lib.hid (fun w' (o : On g wr w') => HS.out.says w' (HO.out.trans o) (ge xs q) (ge xs h) (HP.out q (by rw [HN.out]; omega)) (HP.out h (by rw [HN.out]; omega)))
      have hsg := HS.out.sign (ge xs q) (ge xs h) (HP.out q (by rw [HN.out]; omega)) (HP.out h (by rw [HN.out]; omega))
      have HHi := Lib.hid (fun hv : key (ge xs q) < key (ge xs h) => show ∀ k, h ≤ k → k < r0 → key (ge xs (p - k)) < key (ge xs k) from fun k k1 k2 => by
        by_cases e : k = h
        · subst e; rw [← hq]; exact hv
        · have e1 := hI1.out h k (by omega) (by omega) (by omega)
          have e2 := hI2.out (p - k) q (by omega) (by omega) (by omega)
          omega)
      have HLo := Lib.hid (fun hv : ¬ key (ge xs q) < key (ge xs h) => show ∀ k, lo ≤ k → k < h + 1 → key (ge xs k) ≤ key (ge xs (p - k)) from fun k k1 k2 => by
        by_cases e : k = h
        · subst e; rw [← hq]; omega
        · have e1 := hI1.out k h (by omega) (by omega) (by omega)
          have e2 := hI2.out q (p - k) (by omega) (by omega) (by omega)
          omega)
      clear hh hq hpn
      generalize C (ge xs q) (ge xs h) = cv at *
      by_cases hk : key (ge xs q) < key (ge xs h)
      · have HH' := Lib.hid (HHi.out hk)
        have hvb : (!decide (cv < 0)) = false := by simp; exact hsg.2 hk
        clear hk hsg HHi HLo
        generalize ge xs h = u at *
        generalize ge xs q = v at *
        go_wp2
        go_region_held3 (fun w' => w'.cell? ⟨g, q * 2, none⟩ = some (.int .i64 v.1) ∧ w'.cell? ⟨g, q * 2 + 1, none⟩ = some (.int .i64 v.2) ∧ w'.cell? ⟨g, h * 2, none⟩ = some (.int .i64 u.1) ∧ w'.cell? ⟨g, h * 2 + 1, none⟩ = some (.int .i64 u.2)) (exact HKp.out _ (by repeat (first | exact Mor.refl _ | apply Mor.alloc | apply Mor.more | apply Mor.drewN | apply Mor.drew))) (first | (go_at_fn c; (with_reducible refine (HCmp.out _ (On.of_mor (by repeat (first | exact Mor.refl _ | apply Mor.alloc | apply Mor.more | apply Mor.drewN | apply Mor.drew)))).mono ?_); rintro e w1 ⟨rfl, bs, dr, rfl⟩))
        go_wp2
        go_roundw
        case rel => exact ⟨i, h, rfl, rfl, i1, b1, by omega, HA, HH', Lib.hid (Dat.mor HY.out (by repeat (first | exact Mor.refl _ | apply Mor.alloc | apply Mor.more | apply Mor.drewN | apply Mor.drew))), Lib.hid (On.mor HO.out (by repeat (first | exact Mor.refl _ | apply Mor.alloc | apply Mor.more | apply Mor.drewN | apply Mor.drew)))⟩
        case measure => simp [intOf]; omega
      · have HL' := Lib.hid (HLo.out hk)
        have hvb : (!decide (cv < 0)) = true := by simp; exact Int.not_lt.1 (fun h => hk (hsg.1 h))
        clear hk hsg HHi HLo
        generalize ge xs h = u at *
        generalize ge xs q = v at *
        go_wp2
        go_region_held3 (fun w' => w'.cell? ⟨g, q * 2, none⟩ = some (.int .i64 v.1) ∧ w'.cell? ⟨g, q * 2 + 1, none⟩ = some (.int .i64 v.2) ∧ w'.cell? ⟨g, h * 2, none⟩ = some (.int .i64 u.1) ∧ w'.cell? ⟨g, h * 2 + 1, none⟩ = some (.int .i64 u.2)) (exact HKp.out _ (by repeat (first | exact Mor.refl _ | apply Mor.alloc | apply Mor.more | apply Mor.drewN | apply Mor.drew))) (first | (go_at_fn c; (with_reducible refine (HCmp.out _ (On.of_mor (by repeat (first | exact Mor.refl _ | apply Mor.alloc | apply Mor.more | apply Mor.drewN | apply Mor.drew)))).mono ?_); rintro e w1 ⟨rfl, bs, dr, rfl⟩))
        go_wp2
        go_roundw
        case rel => exact ⟨h + 1, j, by go_num, rfl, by omega, by omega, i3, HL', HB, Lib.hid (Dat.mor HY.out (by repeat (first | exact Mor.refl _ | apply Mor.alloc | apply Mor.more | apply Mor.drewN | apply Mor.drew))), Lib.hid (On.mor HO.out (by repeat (first | exact Mor.refl _ | apply Mor.alloc | apply Mor.more | apply Mor.drewN | apply Mor.drew)))⟩
        case measure => simp [intOf]; omega
    · obtain rfl : j = i := by omega
      obtain ⟨s, hs⟩ : ∃ s, s = j := ⟨_, rfl⟩
      rw [← hs] at HA HB i1 i3 ⊢
      clear hs hlt i2
      obtain ⟨e, he⟩ : ∃ e, e = nn - s := ⟨_, rfl⟩
      have hpn : p + 1 = nn ∧ nn = mid + m := by have := HNN.out; have := HPP.out; omega
      have ee : (nn : Int) - (s : Int) = (e : Int) := by omega
      have we : IntKind.i64.wrap (e : Int) = (e : Int) := IntWalk.i64_in _ (by omega)
      have X1 : a ≤ s := by omega
      have X2 : s ≤ m := by omega
      have X3 : s ≤ mid := by omega
      have X4 : m ≤ e := by omega
      have X5 : mid ≤ e := by omega
      have X6 : e ≤ b := by omega
      have X7 : mid + m = s + e := by omega
      have C1 := Lib.hid (fun (q1 : s < m) (q2 : m < e) => show key (ge xs (e - 1)) < key (ge xs s) by
        have := HB.out s (Nat.le_refl _) (by omega)
        rw [show p - s = e - 1 by omega] at this; exact this)
      have C2 := Lib.hid (fun (q1 : a < s) (q2 : e < b) => show key (ge xs (s - 1)) ≤ key (ge xs e) by
        have := HA.out (s - 1) (by omega) (by omega)
        rw [show p - (s - 1) = e by omega] at this; exact this)
      have HFin := Lib.hid (fun w' (h : SymC key xs g a m b s e mid w w') => show ∃ ys, Mg key xs ys a b ∧ Dat w' g ys ∧ On g w w' by
        obtain ⟨zs, us, vs, hr, hu, hv, hd, ho⟩ := h
        exact ⟨vs, sym_plain X1 X2 X3 X4 X5 X6 hbx.out X7 HS1.out HS2.out C1.out C2.out hr hu hv, hd, ho⟩)
      have HNo := Lib.hid (fun (h : ¬ (s < m ∧ m < e)) => show SymA xs g m s e w wr from symA_none X2 X4 h HY.out HO.out)
      have HRot := Lib.hid (fun (q1 : s < m) (q2 : m < e) => show Calls Try.prog 57 #[.slice (some ⟨g, 0, none⟩) N cap, .int .i64 s, .int .i64 m, .int .i64 e, .func (.func c) #[] cb] wr (fun r w'' => r = .returned (.tuple #[]) ∧ SymA xs g m s e w w'') by
        refine (rot_any g N cap s m e _ xs wr HY.out HN.out hl q1 q2 (by omega)).mono ?_
        rintro r w'' ⟨rfl, ys, hr, hd, ho⟩
        exact ⟨rfl, ys, hr, hd, HO.out.trans ho⟩)
      have HB0 := Lib.hid (fun w' (h : ¬ (a < s ∧ s < mid)) (hA : SymA xs g m s e w w') => symB_none X1 X2 X3 X4 X5 X6 hbx.out X7 HS1.out HS2.out h hA)
      have HC0 := Lib.hid (fun w' (h : ¬ (mid < e ∧ e < b)) (hB : SymB key xs g a m s e mid w w') => symC_none X1 X2 X3 X4 X5 X6 hbx.out X7 HS1.out HS2.out h hB)
      have HB1 := Lib.hid (fun w' (l1 : a < s) (l2 : s < mid) (hA : SymA xs g m s e w w') => symB_call X1 X2 X3 X4 X5 X6 hbx.out X7 HS1.out HS2.out HS.out HP.out HN.out HIH.out l1 l2 F6 hA)
      have HC1 := Lib.hid (fun w' (l1 : mid < e) (l2 : e < b) (hB : SymB key xs g a m s e mid w w') => symC_call X1 X2 X3 X4 X5 X6 hbx.out X7 HS1.out HS2.out HS.out HP.out HN.out HIH.out l1 l2 F7 hB)
      clear he hpn HA HB C1 C2 HS1 HS2 HIH hI1 hI2
      by_cases t1 : (s : Int) < (m : Int) <;> by_cases t2 : (m : Int) < (e : Int) <;> by_cases t3 : (a : Int) < (s : Int) <;> by_cases t6 : (e : Int) < (b : Int) <;> (
        (first | have t4 : (s : Int) < (mid : Int) := by omega | have t4 : ¬ ((s : Int) < (mid : Int)) := by omega)
        (first | have t5 : (mid : Int) < (e : Int) := by omega | have t5 : ¬ ((mid : Int) < (e : Int)) := by omega)
        have HSa := Lib.hid trivial
        have HSb := Lib.hid trivial
        have HSc := Lib.hid trivial
        go_wp2_with (first
          | (go_at_call 57; (with_reducible refine (HRot.out (by omega) (by omega)).mono ?_); rintro r w2 ⟨rfl, hA⟩; have HSa := Lib.hid hA; clear hA)
          | (go_at_call 52; (with_reducible refine (HB1.out _ (by omega) (by omega) (by first | exact HSa.out | exact HNo.out (by omega))).mono ?_); rintro r w3 ⟨rfl, hB⟩; have HSb := Lib.hid hB; clear hB)
          | (go_at_call 52; (with_reducible refine (HC1.out _ (by omega) (by omega) (by first | exact HSb.out | exact HB0.out _ (by omega) HSa.out | exact HB0.out _ (by omega) (HNo.out (by omega)))).mono ?_); rintro r w4 ⟨rfl, hC⟩; have HSc := Lib.hid hC; clear hC))
        all_goals (first | go_end0 | go_returns)
        all_goals refine ⟨rfl, HFin.out _ ?_⟩
        all_goals first
          | exact HSc.out
          | exact HC0.out _ (by omega) HSb.out
          | exact HC0.out _ (by omega) (HB0.out _ (by omega) HSa.out)
          | exact HC0.out _ (by omega) (HB0.out _ (by omega) (HNo.out (by omega))))

end Go.Proofs.Ytphkckonnogjmaa

