/- The walk of symMergeCmpFunc at int: a single one right. -/
import Derived.Test.YtphkckonnogjmaaSuD
namespace Go.Proofs.Ytphkckonnogjmaa
open Go.ChangeShapes Go.WideShapes Go.ChangeAt Go.RowKit Stb
set_option linter.unusedVariables false

set_option maxRecDepth 100000 in
set_option maxHeartbeats 3200000 in
theorem sym_r (g N cap a m c : Nat) (cb : Array Value) (pe : Pr → Prop) (key : Pr → Int) (C : Pr → Pr → Int) (xs : List Pr) (w : World) (eg : ∀ args w, (callFunc c args).run Try.prog w = .ok (.enter c args) w) (hs : SaysC w g c cb pe key C) (hp : AllP pe xs) (hd : Dat w g xs) (hN : xs.length = N) (hl : N ≤ 1000)
    (h1 : a + 1 < m) (h2 : m + 1 ≤ N) (s1 : Srt key (seg xs a m)) :
    Calls Try.prog 52 #[.slice (some ⟨g, 0, none⟩) N cap, .int .i64 a, .int .i64 m, .int .i64 (m + 1 : Nat), .func (.func c) #[] cb] w (ModPost w g (fun ys => Mg key xs ys a (m + 1))) := by
  have HD := Lib.hid hd
  have HN := Lib.hid hN
  have HS := Lib.hid hs
  have HP := Lib.hid hp
  have HS1 := Lib.hid s1
  clear hd hN hs hp s1
  obtain ⟨b, hb⟩ : ∃ b, b = m + 1 := ⟨_, rfl⟩
  have HMb := Lib.hid hb
  have e0 : (b : Int) - (m : Int) = 1 := by omega
  obtain ⟨d, hd⟩ : ∃ d, d = m - a := ⟨_, rfl⟩
  have ed : (m : Int) - (a : Int) = (d : Int) := by omega
  have ed2 : ((d : Int) == 1) = false := by simp; omega
  rw [← hb]
  rw [← hb] at h2
  clear hb hd
  go_enter Try.func52, Try.ntmps52
  go_wp2
  go_loopw [14, 15] (fun vi vj wr => ∃ i j : Nat, vi = .int .i64 i ∧ vj = .int .i64 j ∧ a ≤ i ∧ i ≤ j ∧ j ≤ m ∧ Hid (∀ k, a ≤ k → k < i → key (ge xs k) ≤ key (ge xs m)) ∧ Hid (∀ k, j ≤ k → k < m → key (ge xs m) < key (ge xs k)) ∧ Hid (Dat wr g xs) ∧ Hid (On g w wr)) (fun vi vj _ => (intOf vj - intOf vi).toNat)
  case atStart => exact ⟨a, m, rfl, rfl, Nat.le_refl _, by omega, Nat.le_refl _, Lib.hid (fun k h1 h2 => by omega), Lib.hid (fun k h1 h2 => by omega), HD, Lib.hid (On.refl _ _)⟩
  case round =>
    obtain ⟨i, j, rfl, rfl, i1, i2, i3, HA, HB, HY, HO⟩ := hrel
    by_cases hlt : i < j
    · have hki : (i : Int) < (j : Int) := by omega
      obtain ⟨h, hh⟩ : ∃ h : Nat, h = (i + j) / 2 := ⟨_, rfl⟩
      have hm1 : ((i : Int) + (j : Int)) / 2 = (h : Int) := by omega
      have b1 : i ≤ h := by omega
      have b2 : h < j := by omega
      have h0 : (0 : Int) ≤ (h : Int) := by omega
      have hN' : (h : Int) < (N : Int) := by omega
      have a0 : (0 : Int) ≤ (m : Int) := by omega
      have aN : (m : Int) < (N : Int) := by have := HMb.out; omega
      obtain ⟨ch, ch'⟩ := HY.out.cell h (by rw [HN.out]; omega)
      obtain ⟨ca, ca'⟩ := HY.out.cell m (by rw [HN.out]; omega)
      have HKp := Lib.hid (fun w' (o : Mor wr w') => show w'.cell? ⟨g, m * 2, none⟩ = some (.int .i64 (ge xs m).1) ∧ w'.cell? ⟨g, m * 2 + 1, none⟩ = some (.int .i64 (ge xs m).2) ∧ w'.cell? ⟨g, h * 2, none⟩ = some (.int .i64 (ge xs h).1) ∧ w'.cell? ⟨g, h * 2 + 1, none⟩ = some (.int .i64 (ge xs h).2) from ⟨((HY.out.mor o).cell m (by rw [HN.out]; omega)).1, ((HY.out.mor o).cell m (by rw [HN.out]; omega)).2, ((HY.out.mor o).cell h (by rw [HN.out]; omega)).1, ((HY.out.mor o).cell h (by rw [HN.out]; omega)).2⟩)
      have HCmp := Lib.hid (fun w' (o : On g wr w') => HS.out.says w' (HO.out.trans o) (ge xs m) (ge xs h) (HP.out m (by rw [HN.out]; omega)) (HP.out h (by rw [HN.out]; omega)))
      have hsg := HS.out.sign (ge xs m) (ge xs h) (HP.out m (by rw [HN.out]; omega)) (HP.out h (by rw [HN.out]; omega))
      have HI2 := Lib.hid ((srt_seg (key := key) (by rw [HN.out]; omega)).1 HS1.out)
      have HHi := Lib.hid (fun hv : key (ge xs m) < key (ge xs h) => show ∀ k, h ≤ k → k < m → key (ge xs m) < key (ge xs k) from fun k k1 k2 => by
        by_cases e : k = h
        · subst e; exact hv
        · have := HI2.out h k (by omega) (by omega) (by omega); omega)
      have HLo := Lib.hid (fun hv : ¬ key (ge xs m) < key (ge xs h) => show ∀ k, a ≤ k → k < h + 1 → key (ge xs k) ≤ key (ge xs m) from fun k k1 k2 => by
        by_cases e : k = h
        · subst e; omega
        · have := HI2.out k h k1 (by omega) (by omega); omega)
      clear hh
      generalize C (ge xs m) (ge xs h) = cv at *
      by_cases hk : key (ge xs m) < key (ge xs h)
      · have HH' := Lib.hid (HHi.out hk)
        have hvb : (!decide (cv < 0)) = false := by simp; exact hsg.2 hk
        clear hk hsg
        generalize ge xs h = u at *
        generalize ge xs m = v at *
        go_wp2
        go_region_held3 (fun w' => w'.cell? ⟨g, m * 2, none⟩ = some (.int .i64 v.1) ∧ w'.cell? ⟨g, m * 2 + 1, none⟩ = some (.int .i64 v.2) ∧ w'.cell? ⟨g, h * 2, none⟩ = some (.int .i64 u.1) ∧ w'.cell? ⟨g, h * 2 + 1, none⟩ = some (.int .i64 u.2)) (exact HKp.out _ (by repeat (first | exact Mor.refl _ | apply Mor.alloc | apply Mor.more | apply Mor.drewN | apply Mor.drew))) (first | (go_at_fn c; (with_reducible refine (HCmp.out _ (On.of_mor (by repeat (first | exact Mor.refl _ | apply Mor.alloc | apply Mor.more | apply Mor.drewN | apply Mor.drew)))).mono ?_); rintro e w1 ⟨rfl, bs, dr, rfl⟩))
        go_wp2
        all_goals (go_roundw; (case rel => exact ⟨i, h, rfl, rfl, i1, b1, by omega, HA, HH', Lib.hid (Dat.mor HY.out (by repeat (first | exact Mor.refl _ | apply Mor.alloc | apply Mor.more | apply Mor.drewN | apply Mor.drew))), Lib.hid (On.mor HO.out (by repeat (first | exact Mor.refl _ | apply Mor.alloc | apply Mor.more | apply Mor.drewN | apply Mor.drew)))⟩); (case measure => simp [intOf]; omega))
      · have HL' := Lib.hid (HLo.out hk)
        have hvb : (!decide (cv < 0)) = true := by simp; exact Int.not_lt.1 (fun h => hk (hsg.1 h))
        clear hk hsg
        generalize ge xs h = u at *
        generalize ge xs m = v at *
        go_wp2
        go_region_held3 (fun w' => w'.cell? ⟨g, m * 2, none⟩ = some (.int .i64 v.1) ∧ w'.cell? ⟨g, m * 2 + 1, none⟩ = some (.int .i64 v.2) ∧ w'.cell? ⟨g, h * 2, none⟩ = some (.int .i64 u.1) ∧ w'.cell? ⟨g, h * 2 + 1, none⟩ = some (.int .i64 u.2)) (exact HKp.out _ (by repeat (first | exact Mor.refl _ | apply Mor.alloc | apply Mor.more | apply Mor.drewN | apply Mor.drew))) (first | (go_at_fn c; (with_reducible refine (HCmp.out _ (On.of_mor (by repeat (first | exact Mor.refl _ | apply Mor.alloc | apply Mor.more | apply Mor.drewN | apply Mor.drew)))).mono ?_); rintro e w1 ⟨rfl, bs, dr, rfl⟩))
        go_wp2
        all_goals (go_roundw; (case rel => exact ⟨h + 1, j, by go_num, rfl, by omega, by omega, i3, HL', HB, Lib.hid (Dat.mor HY.out (by repeat (first | exact Mor.refl _ | apply Mor.alloc | apply Mor.more | apply Mor.drewN | apply Mor.drew))), Lib.hid (On.mor HO.out (by repeat (first | exact Mor.refl _ | apply Mor.alloc | apply Mor.more | apply Mor.drewN | apply Mor.drew)))⟩); (case measure => simp [intOf]; omega))
    · obtain rfl : j = i := by omega
      have HR0 := Lib.hid (fun ys (hr : Rot xs ys j m (m + 1)) => show Mg key xs ys a (m + 1) from
        rot_mg (s := j) (m := m) (e := m + 1) i1 i3 (by omega) (Nat.le_refl _) (by rw [HN.out]; have := HMb.out; omega)
          HS1.out ((srt_seg (by rw [HN.out]; have := HMb.out; omega)).2 fun p q h1 h2 h3 => by omega)
          (fun q _ => by have := HB.out j (Nat.le_refl _) q; simpa using this) (fun _ q => by omega)
          (fun _ q => by omega) (fun q _ => HA.out (j - 1) (by omega) (by omega)) hr)
      go_wp2
      go_loopw [17] (fun vk wr2 => ∃ (k : Nat) (ys : List Pr), vk = .int .i64 k ∧ j ≤ k ∧ k ≤ m ∧ Hid (Rot xs ys k m (m + 1)) ∧ Hid (Dat wr2 g ys) ∧ Hid (On g w wr2)) (fun vk _ => (intOf vk).toNat)
      case atStart => exact ⟨m, xs, rfl, i3, Nat.le_refl _, Lib.hid (Rot.none_l _ _ _ (by omega)), HY, HO⟩
      case round =>
        obtain ⟨k, ys, rfl, k1, k2, HR, HZ, HOz⟩ := hrel
        have hly : ys.length = N := by rw [HR.out.len, HN.out]
        by_cases hkq : j < k
        · have hkqi : (j : Int) < (k : Int) := by omega
          obtain ⟨p, hp⟩ : ∃ p, p = k - 1 := ⟨_, rfl⟩
          have e2 : (k : Int) - 1 = (p : Int) := by omega
          have wp' : IntKind.i64.wrap (p : Int) = (p : Int) := IntWalk.i64_in _ (by omega)
          have k0 : (0 : Int) ≤ (k : Int) := by omega
          have p0 : (0 : Int) ≤ (p : Int) := by omega
          have kN : (k : Int) < (N : Int) := by have := HMb.out; omega
          have pN : (p : Int) < (N : Int) := by omega
          obtain ⟨ck, ck'⟩ := HZ.out.cell k (by omega)
          obtain ⟨cp, cp'⟩ := HZ.out.cell p (by omega)
          obtain ⟨fk, fk'⟩ := HZ.out.frozen k
          obtain ⟨fp, fp'⟩ := HZ.out.frozen p
          have HR' := Lib.hid (show Rot xs (swp ys k p) p m (m + 1) by rw [hp]; exact HR.out.down (by omega) k2 (by rw [HN.out]; have := HMb.out; omega))
          have HZ' := Lib.hid (HZ.out.swp k p (by omega) (by omega))
          have HO' := Lib.hid (HOz.out.swp4 k p (ge ys k) (ge ys p))
          have hkp : k ≠ p := by omega
          have hpq : j ≤ p := by omega
          have hap : p ≤ m := by omega
          have HPk := Lib.hid (show p < k by omega)
          generalize ge ys k = u at *
          generalize ge ys p = v at *
          clear hp
          go_wp2
          go_region
          all_goals go_wp2
          go_roundw
          case rel => exact ⟨p, swp ys k p, rfl, hpq, hap, HR', Lib.hid (Dat.drew HZ'.out), Lib.hid (On.drew HO'.out)⟩
          case measure => simp [intOf]; have := HPk.out; omega
        · obtain rfl : k = j := by omega
          go_wp2
          first | go_end0 | go_returns
          exact ⟨rfl, ys, (by have := HR0.out ys HR.out; rw [← HMb.out] at this; exact this), HZ.out, HOz.out⟩

end Go.Proofs.Ytphkckonnogjmaa
