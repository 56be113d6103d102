/- The walk of symMergeCmpFunc at int: a single one left, a single one right. -/
import Derived.Test.YtphkckonnogjmaaSuC
namespace Go.Proofs.Ytphkckonnogjmaa
open Go.ChangeShapes Go.WideShapes Go.ChangeAt Go.RowKit Stb
set_option linter.unusedVariables false

set_option maxRecDepth 100000 in
set_option maxHeartbeats 3200000 in
theorem sym_l (g N cap a b c : Nat) (cb : Array Value) (pe : Pr → Prop) (key : Pr → Int) (C : Pr → Pr → Int) (xs : List Pr) (w : World) (eg : ∀ args w, (callFunc c args).run Try.prog w = .ok (.enter c args) w) (hs : SaysC w g c cb pe key C) (hp : AllP pe xs) (hd : Dat w g xs) (hN : xs.length = N) (hl : N ≤ 1000)
    (h1 : a + 1 < b) (h2 : b ≤ N) (s2 : Srt key (seg xs (a + 1) b)) :
    Calls Try.prog 52 #[.slice (some ⟨g, 0, none⟩) N cap, .int .i64 a, .int .i64 (a + 1 : Nat), .int .i64 b, .func (.func c) #[] cb] w (ModPost w g (fun ys => Mg key xs ys a b)) := by
  have HD := Lib.hid hd
  have HN := Lib.hid hN
  have HS := Lib.hid hs
  have HP := Lib.hid hp
  have HS2 := Lib.hid s2
  clear hd hN hs hp s2
  obtain ⟨m, hm⟩ : ∃ m, m = a + 1 := ⟨_, rfl⟩
  have HMm := Lib.hid hm
  have e0 : (m : Int) - (a : Int) = 1 := by omega
  rw [← hm]
  rw [← hm] at h1
  clear hm
  go_enter Try.func52, Try.ntmps52
  go_wp2
  go_loopw [10, 11] (fun vi vj wr => ∃ i j : Nat, vi = .int .i64 i ∧ vj = .int .i64 j ∧ m ≤ i ∧ i ≤ j ∧ j ≤ b ∧ Hid (∀ k, m ≤ k → k < i → key (ge xs k) < key (ge xs a)) ∧ Hid (∀ k, j ≤ k → k < b → key (ge xs a) ≤ key (ge xs k)) ∧ Hid (Dat wr g xs) ∧ Hid (On g w wr)) (fun vi vj _ => (intOf vj - intOf vi).toNat)
  case atStart => exact ⟨m, b, rfl, rfl, Nat.le_refl _, by omega, Nat.le_refl _, Lib.hid (fun k h1 h2 => by omega), Lib.hid (fun k h1 h2 => by omega), HD, Lib.hid (On.refl _ _)⟩
  case round =>
    obtain ⟨i, j, rfl, rfl, i1, i2, i3, HA, HB, HY, HO⟩ := hrel
    by_cases hlt : i < j
    · have hki : (i : Int) < (j : Int) := by omega
      obtain ⟨h, hh⟩ : ∃ h : Nat, h = (i + j) / 2 := ⟨_, rfl⟩
      have hm1 : ((i : Int) + (j : Int)) / 2 = (h : Int) := by omega
      have b1 : i ≤ h := by omega
      have b2 : h < j := by omega
      have h0 : (0 : Int) ≤ (h : Int) := by omega
      have hN' : (h : Int) < (N : Int) := by omega
      have a0 : (0 : Int) ≤ (a : Int) := by omega
      have aN : (a : Int) < (N : Int) := by have := HMm.out; omega
      obtain ⟨ch, ch'⟩ := HY.out.cell h (by rw [HN.out]; omega)
      obtain ⟨ca, ca'⟩ := HY.out.cell a (by rw [HN.out]; omega)
      have HKp := Lib.hid (fun w' (o : Mor wr w') => show w'.cell? ⟨g, h * 2, none⟩ = some (.int .i64 (ge xs h).1) ∧ w'.cell? ⟨g, h * 2 + 1, none⟩ = some (.int .i64 (ge xs h).2) ∧ w'.cell? ⟨g, a * 2, none⟩ = some (.int .i64 (ge xs a).1) ∧ w'.cell? ⟨g, a * 2 + 1, none⟩ = some (.int .i64 (ge xs a).2) from ⟨((HY.out.mor o).cell h (by rw [HN.out]; omega)).1, ((HY.out.mor o).cell h (by rw [HN.out]; omega)).2, ((HY.out.mor o).cell a (by rw [HN.out]; omega)).1, ((HY.out.mor o).cell a (by rw [HN.out]; omega)).2⟩)
      have HCmp := Lib.hid (fun w' (o : On g wr w') => HS.out.says w' (HO.out.trans o) (ge xs h) (ge xs a) (HP.out h (by rw [HN.out]; omega)) (HP.out a (by rw [HN.out]; omega)))
      have hsg := HS.out.sign (ge xs h) (ge xs a) (HP.out h (by rw [HN.out]; omega)) (HP.out a (by rw [HN.out]; omega))
      have HI2 := Lib.hid ((srt_seg (key := key) (by rw [HN.out]; exact h2)).1 HS2.out)
      have HLo := Lib.hid (fun hv : key (ge xs h) < key (ge xs a) => show ∀ k, m ≤ k → k < h + 1 → key (ge xs k) < key (ge xs a) from fun k k1 k2 => by
        by_cases e : k = h
        · subst e; exact hv
        · have := HI2.out k h (by rw [← HMm.out]; exact k1) (by omega) (by omega); omega)
      have HHi := Lib.hid (fun hv : ¬ key (ge xs h) < key (ge xs a) => show ∀ k, h ≤ k → k < b → key (ge xs a) ≤ key (ge xs k) from fun k k1 k2 => by
        by_cases e : k = h
        · subst e; omega
        · have := HI2.out h k (by rw [← HMm.out]; omega) (by omega) (by omega); omega)
      clear hh
      generalize C (ge xs h) (ge xs a) = cv at *
      by_cases hk : key (ge xs h) < key (ge xs a)
      · have HL' := Lib.hid (HLo.out hk)
        have hv : cv < 0 := hsg.2 hk
        clear hk hsg
        generalize ge xs h = u at *
        generalize ge xs a = v at *
        go_wp2
        go_region_held3 (fun w' => w'.cell? ⟨g, h * 2, none⟩ = some (.int .i64 u.1) ∧ w'.cell? ⟨g, h * 2 + 1, none⟩ = some (.int .i64 u.2) ∧ w'.cell? ⟨g, a * 2, none⟩ = some (.int .i64 v.1) ∧ w'.cell? ⟨g, a * 2 + 1, none⟩ = some (.int .i64 v.2)) (exact HKp.out _ (by repeat (first | exact Mor.refl _ | apply Mor.alloc | apply Mor.more | apply Mor.drewN | apply Mor.drew))) (first | (go_at_fn c; (with_reducible refine (HCmp.out _ (On.of_mor (by repeat (first | exact Mor.refl _ | apply Mor.alloc | apply Mor.more | apply Mor.drewN | apply Mor.drew)))).mono ?_); rintro e w1 ⟨rfl, bs, dr, rfl⟩))
        go_wp2
        go_roundw
        case rel => exact ⟨h + 1, j, by go_num, rfl, by omega, by omega, i3, HL', HB, Lib.hid (Dat.mor HY.out (by repeat (first | exact Mor.refl _ | apply Mor.alloc | apply Mor.more | apply Mor.drewN | apply Mor.drew))), Lib.hid (On.mor HO.out (by repeat (first | exact Mor.refl _ | apply Mor.alloc | apply Mor.more | apply Mor.drewN | apply Mor.drew)))⟩
        case measure => simp [intOf]; omega
      · have HH' := Lib.hid (HHi.out hk)
        have hv : ¬ cv < 0 := fun h => hk (hsg.1 h)
        clear hk hsg
        generalize ge xs h = u at *
        generalize ge xs a = v at *
        go_wp2
        go_region_held3 (fun w' => w'.cell? ⟨g, h * 2, none⟩ = some (.int .i64 u.1) ∧ w'.cell? ⟨g, h * 2 + 1, none⟩ = some (.int .i64 u.2) ∧ w'.cell? ⟨g, a * 2, none⟩ = some (.int .i64 v.1) ∧ w'.cell? ⟨g, a * 2 + 1, none⟩ = some (.int .i64 v.2)) (exact HKp.out _ (by repeat (first | exact Mor.refl _ | apply Mor.alloc | apply Mor.more | apply Mor.drewN | apply Mor.drew))) (first | (go_at_fn c; (with_reducible refine (HCmp.out _ (On.of_mor (by repeat (first | exact Mor.refl _ | apply Mor.alloc | apply Mor.more | apply Mor.drewN | apply Mor.drew)))).mono ?_); rintro e w1 ⟨rfl, bs, dr, rfl⟩))
        go_wp2
        go_roundw
        case rel => exact ⟨i, h, rfl, rfl, i1, b1, by omega, HA, HH', Lib.hid (Dat.mor HY.out (by repeat (first | exact Mor.refl _ | apply Mor.alloc | apply Mor.more | apply Mor.drewN | apply Mor.drew))), Lib.hid (On.mor HO.out (by repeat (first | exact Mor.refl _ | apply Mor.alloc | apply Mor.more | apply Mor.drewN | apply Mor.drew)))⟩
        case measure => simp [intOf]; omega
    · obtain rfl : j = i := by omega
      have HR0 := Lib.hid (fun ys (hr : Rot xs ys a (a + 1) j) => show Mg key xs ys a b from
        rot_mg (s := a) (m := a + 1) (e := j) (Nat.le_refl _) (by omega) (by have := HMm.out; omega) i3 (by rw [HN.out]; exact h2)
          ((srt_seg (by rw [HN.out]; have := HMm.out; omega)).2 fun p q h1 h2 h3 => by omega) HS2.out
          (fun _ q => HA.out (j - 1) (by have := HMm.out; omega) (by omega)) (fun q _ => by omega)
          (fun _ q => by have := HB.out j (Nat.le_refl _) q; rw [show a + 1 - 1 = a by omega]; exact this) (fun q _ => by omega) hr)
      obtain ⟨q, hq⟩ : ∃ q, q = j - 1 := ⟨_, rfl⟩
      have e1 : (j : Int) - 1 = (q : Int) := by omega
      have wq : IntKind.i64.wrap (q : Int) = (q : Int) := IntWalk.i64_in _ (by omega)
      have HQ := Lib.hid hq
      have hq2 : a ≤ q := by have := HMm.out; omega
      have hq3 : q + 1 ≤ N := by omega
      clear hq
      go_wp2
      go_loopw [13] (fun vk wr2 => ∃ (k : Nat) (ys : List Pr), vk = .int .i64 k ∧ a ≤ k ∧ k ≤ q ∧ Hid (Rot xs ys a (a + 1) (k + 1)) ∧ Hid (Dat wr2 g ys) ∧ Hid (On g w wr2)) (fun vk _ => q - (intOf vk).toNat)
      case atStart => exact ⟨a, xs, rfl, Nat.le_refl _, hq2, Lib.hid (Rot.none_r _ _ _ (by omega)), HY, HO⟩
      case round =>
        obtain ⟨k, ys, rfl, k1, k2, HR, HZ, HOz⟩ := hrel
        have hly : ys.length = N := by rw [HR.out.len, HN.out]
        by_cases hkq : k < q
        · have hkqi : (k : Int) < (q : Int) := by omega
          obtain ⟨p, hp⟩ : ∃ p, p = k + 1 := ⟨_, rfl⟩
          have e2 : (k : Int) + 1 = (p : Int) := by omega
          have k0 : (0 : Int) ≤ (k : Int) := by omega
          have p0 : (0 : Int) ≤ (p : Int) := by omega
          have kN : (k : Int) < (N : Int) := by omega
          have pN : (p : Int) < (N : Int) := by omega
          obtain ⟨ck, ck'⟩ := HZ.out.cell k (by omega)
          obtain ⟨cp, cp'⟩ := HZ.out.cell p (by omega)
          obtain ⟨fk, fk'⟩ := HZ.out.frozen k
          obtain ⟨fp, fp'⟩ := HZ.out.frozen p
          have HR' := Lib.hid (show Rot xs (swp ys k p) a (a + 1) (p + 1) by rw [hp]; exact HR.out.up k1 (by rw [HN.out]; omega))
          have HZ' := Lib.hid (HZ.out.swp k p (by omega) (by omega))
          have HO' := Lib.hid (HOz.out.swp4 k p (ge ys k) (ge ys p))
          have hkp : k ≠ p := by omega
          have hpq : p ≤ q := by omega
          have hap : a ≤ p := by omega
          have HPk := Lib.hid (show k < p by omega)
          generalize ge ys k = u at *
          generalize ge ys p = v at *
          clear hp
          go_wp2
          go_region
          all_goals go_wp2
          go_roundw
          case rel => exact ⟨p, swp ys k p, rfl, hap, hpq, HR', Lib.hid (Dat.drew HZ'.out), Lib.hid (On.drew HO'.out)⟩
          case measure => simp [intOf]; have := HPk.out; omega
        · obtain rfl : q = k := by omega
          go_wp2
          first | go_end0 | go_returns
          exact ⟨rfl, ys, HR0.out ys (by have := HR.out; rw [HQ.out, show j - 1 + 1 = j by omega] at this; exact this), HZ.out, HOz.out⟩

end Go.Proofs.Ytphkckonnogjmaa
