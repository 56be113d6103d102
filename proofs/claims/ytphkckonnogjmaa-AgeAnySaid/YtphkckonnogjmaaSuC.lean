/- The walk of insertionSortCmpFunc at int. -/
import Derived.Test.YtphkckonnogjmaaSuB
import Derived.Deep.RegionWith
import Derived.Deep.DeepCutAuto
import Derived.Shelf.Abstract
namespace Go.Proofs.Ytphkckonnogjmaa
open Go.ChangeShapes Go.WideShapes Go.ChangeAt Go.RowKit Stb
set_option linter.unusedVariables false

/-- a closure that compares by a key, wherever the block g alone was turned -/
structure SaysC (w : World) (g c : Nat) (cb : Array Value) (pe : Pr → Prop) (key : Pr → Int) (C : Pr → Pr → Int) : Prop where
  sign : ∀ x y, pe x → pe y → (C x y < 0 ↔ key x < key y)
  says : ∀ (w' : World), On g w w' → ∀ x y, pe x → pe y → Calls Try.prog c (#[.agg #[.int .i64 x.1, .int .i64 x.2], .agg #[.int .i64 y.1, .int .i64 y.2]] ++ cb) w' fun e w'' => e = .returned (.int .i64 (C x y)) ∧ Mor w' w''
theorem SaysC.on {w w1 : World} {g c : Nat} {cb : Array Value} {pe : Pr → Prop} {key : Pr → Int} {C : Pr → Pr → Int} (h : SaysC w g c cb pe key C) (ho : On g w w1) : SaysC w1 g c cb pe key C :=
  ⟨h.sign, fun w' h' x y hx hy => h.says w' (ho.trans h') x y hx hy⟩
def AllP (pe : Pr → Prop) (xs : List Pr) : Prop := ∀ i, i < xs.length → pe (ge xs i)
theorem AllP.rot {pe : Pr → Prop} {xs ys : List Pr} {s m e : Nat} (h : AllP pe xs) (hr : Rot xs ys s m e) (he : e ≤ xs.length) (h1 : s ≤ m) (h2 : m ≤ e) : AllP pe ys := fun i hi => by
  have hl := hr.len
  have e1 := hr.at_ i
  have hx : rix s m e i < xs.length := by unfold rix; split <;> (try split) <;> omega
  rw [ge_some hi, ge_some hx] at e1
  injection e1 with e1
  rw [e1]; exact h _ hx
theorem AllP.mg {pe : Pr → Prop} {key : Pr → Int} {xs ys : List Pr} {a b : Nat} (h : AllP pe xs) (hm : Mg key xs ys a b) (hb : b ≤ xs.length) : AllP pe ys := fun i hi => by
  have hl := hm.chg.len
  by_cases c : i < a ∨ b ≤ i
  · have e1 := hm.chg.out i c
    rw [ge_some hi, ge_some (by omega)] at e1
    injection e1 with e1
    rw [e1]; exact h _ (by omega)
  · have : ge ys i ∈ seg ys a b := (mem_seg (by omega)).2 ⟨i, by omega, by omega, rfl⟩
    obtain ⟨j, j1, j2, e⟩ := (mem_seg hb).1 (hm.same.mem this)
    rw [← e]; exact h j (by omega)

set_option maxRecDepth 100000 in
set_option maxHeartbeats 3200000 in
theorem ins_any (g N cap a b c : Nat) (cb : Array Value) (pe : Pr → Prop) (key : Pr → Int) (C : Pr → Pr → Int) (xs : List Pr) (w : World) (eg : ∀ args w, (callFunc c args).run Try.prog w = .ok (.enter c args) w) (hs : SaysC w g c cb pe key C) (hp : AllP pe xs) (hd : Dat w g xs) (hN : xs.length = N) (hl : N ≤ 1000) (h1 : a ≤ b) (h2 : b ≤ N) :
    Calls Try.prog 51 #[.slice (some ⟨g, 0, none⟩) N cap, .int .i64 a, .int .i64 b, .func (.func c) #[] cb] w (ModPost w g (fun ys => Mg key xs ys a b)) := by
  have HD := Lib.hid hd
  have HN := Lib.hid hN
  have HS := Lib.hid hs
  have HP := Lib.hid hp
  clear hd hN hs hp
  go_enter Try.func51, Try.ntmps51
  go_wp2
  go_loopw [8] (fun vi wr => ∃ (i : Nat) (ys : List Pr), vi = .int .i64 i ∧ a < i ∧ i ≤ b + 1 ∧ Hid (ys.length = N) ∧ Hid (Mg key xs ys a (min i b)) ∧ Hid (AllP pe ys) ∧ Hid (Dat wr g ys) ∧ Hid (On g w wr)) (fun vi _ => b + 1 - (intOf vi).toNat)
  case atStart =>
    refine ⟨a + 1, xs, by go_num, by omega, by omega, HN, Lib.hid ?_, HP, HD, Lib.hid (On.refl _ _)⟩
    by_cases e : a < b
    · rw [Nat.min_eq_left (by omega)]; exact Mg.single _ _ (by rw [HN.out]; omega)
    · rw [Nat.min_eq_right (by omega), show b = a by omega]; exact Mg.one _ _ (by rw [HN.out]; omega)
  case round =>
    obtain ⟨i, ys, rfl, i1, i2, HL, HM, HA, HY, HO⟩ := hrel
    by_cases hib : i < b
    · have hibi : (i : Int) < (b : Int) := by omega
      have HM' := Lib.hid (show Mg key xs ys a i by have := HM.out; rw [Nat.min_eq_left (by omega)] at this; exact this)
      clear HM
      go_wp2
      go_loopw [9] (fun vj wr => ∃ (j : Nat) (zs : List Pr), vj = .int .i64 j ∧ a ≤ j ∧ j ≤ i ∧ Hid (Rot ys zs j i (i + 1)) ∧ Hid (j < i → key (ge ys i) < key (ge ys j)) ∧ Hid (Dat wr g zs) ∧ Hid (On g w wr)) (fun vj _ => (intOf vj).toNat)
      case atStart => exact ⟨i, ys, rfl, by omega, Nat.le_refl _, Lib.hid (Rot.none_l _ _ _ (by omega)), Lib.hid (fun h => absurd h (Nat.lt_irrefl _)), HY, HO⟩
      case round =>
        obtain ⟨j, zs, rfl, j1, j2, HR, HC, HZ, HOz⟩ := hrel
        have hlz : zs.length = N := by rw [HR.out.len, HL.out]
        have HOut := Lib.hid (fun (h : a < j → key (ge ys (j - 1)) ≤ key (ge ys i)) => show Mg key ys zs a (i + 1) from
          rot_mg (s := j) (m := i) (e := i + 1) j1 j2 (by omega) (Nat.le_refl _) (by rw [HL.out]; omega) HM'.out.srt
            ((srt_seg (by rw [HL.out]; omega)).2 fun p q h1 h2 h3 => by omega) (fun h1 _ => by have := HC.out h1; simpa using this) (fun _ h => by omega) (fun _ h => by omega) (fun h' _ => h h') HR.out)
        have HAz := Lib.hid (HA.out.rot HR.out (by rw [HL.out]; omega) j2 (by omega))
        have HLz := Lib.hid hlz
        by_cases hja : a < j
        · have hjai : (a : Int) < (j : Int) := by omega
          obtain ⟨q, hq⟩ : ∃ q, q = j - 1 := ⟨_, rfl⟩
          have e1 : (j : Int) - 1 = (q : Int) := by omega
          have q0 : (0 : Int) ≤ (q : Int) := by omega
          have j0 : (0 : Int) ≤ (j : Int) := by omega
          have qN : (q : Int) < (N : Int) := by omega
          have jN : (j : Int) < (N : Int) := by omega
          have HQ := Lib.hid hq
          have wq : IntKind.i64.wrap (q : Int) = (q : Int) := IntWalk.i64_in _ (by omega)
          have HCel := Lib.hid (fun w' (h : Dat w' g zs) => show (w'.cell? ⟨g, j * 2, none⟩ = some (.int .i64 (ge zs j).1) ∧ w'.cell? ⟨g, j * 2 + 1, none⟩ = some (.int .i64 (ge zs j).2) ∧ w'.cell? ⟨g, q * 2, none⟩ = some (.int .i64 (ge zs q).1) ∧ w'.cell? ⟨g, q * 2 + 1, none⟩ = some (.int .i64 (ge zs q).2)) ∧ w'.frozen? ⟨g, j * 2, none⟩ = false ∧ w'.frozen? ⟨g, j * 2 + 1, none⟩ = false ∧ w'.frozen? ⟨g, q * 2, none⟩ = false ∧ w'.frozen? ⟨g, q * 2 + 1, none⟩ = false from
            ⟨⟨(h.cell j (by omega)).1, (h.cell j (by omega)).2, (h.cell q (by omega)).1, (h.cell q (by omega)).2⟩, (h.frozen j).1, (h.frozen j).2, (h.frozen q).1, (h.frozen q).2⟩)
          have HCmp := Lib.hid (fun w' (h : On g wr w') => HS.out.says w' (HOz.out.trans h) (ge zs j) (ge zs q) (HAz.out j (by omega)) (HAz.out q (by omega)))
          have hsg := HS.out.sign (ge zs j) (ge zs q) (HAz.out j (by omega)) (HAz.out q (by omega))
          have ej : ge zs j = ge ys i := by
            have := HR.out.at_ j
            rw [rix, if_neg (by omega), if_pos (by omega), show j + (i - j) = i by omega, ge_some (by omega), ge_some (by rw [HL.out]; omega)] at this
            injection this
          have eq : ge zs q = ge ys q := by
            have := HR.out.at_ q
            rw [rix, if_pos (by omega), ge_some (by omega), ge_some (by rw [HL.out]; omega)] at this
            injection this
          have HE := Lib.hid (And.intro ej eq)
          have HSw := Lib.hid (show Rot ys (swp zs j q) q i (i + 1) by rw [hq]; exact HR.out.down (by omega) j2 (by rw [HL.out]; omega))
          have HDs := Lib.hid (fun w' (h : Dat w' g zs) => h.swp j q (by omega) (by omega))
          have HO2 := Lib.hid (fun w' (h : On g w w') => h.swp4 j q (ge zs j) (ge zs q))
          have hjq : j ≠ q := by omega
          have HY0 := Lib.hid (fun h : key (ge zs j) < key (ge zs q) => show q < i → key (ge ys i) < key (ge ys q) from fun _ => by rw [← ej, ← eq]; exact h)
          have HN0 := Lib.hid (fun h : ¬ key (ge zs j) < key (ge zs q) => show a < j → key (ge ys (j - 1)) ≤ key (ge ys i) from fun _ => by rw [← ej, ← hq, ← eq]; omega)
          clear hq ej eq hlz
          generalize ge zs j = u at *
          generalize ge zs q = v at *
          have HKp := Lib.hid (fun w' (h : Mor wr w') => (HCel.out w' (HZ.out.mor h)).1)
          obtain ⟨⟨cj, cj', cq, cq'⟩, fj, fj', fq, fq'⟩ := HCel.out _ HZ.out
          generalize C u v = cv at *
          by_cases hk : key u < key v
          · have HK := Lib.hid (HY0.out hk)
            have hv : cv < 0 := hsg.2 hk
            clear hk hsg
            go_wp2
            go_region_held3 (fun w' => w'.cell? ⟨g, j * 2, none⟩ = some (.int .i64 u.1) ∧ w'.cell? ⟨g, j * 2 + 1, none⟩ = some (.int .i64 u.2) ∧ w'.cell? ⟨g, q * 2, none⟩ = some (.int .i64 v.1) ∧ w'.cell? ⟨g, q * 2 + 1, none⟩ = some (.int .i64 v.2)) (exact HKp.out _ (by repeat (first | exact Mor.refl _ | apply Mor.alloc | apply Mor.more | apply Mor.drewN | apply Mor.drew))) (first | (go_at_fn c; (with_reducible refine (HCmp.out _ (On.of_mor (by repeat (first | exact Mor.refl _ | apply Mor.alloc | apply Mor.more | apply Mor.drewN | apply Mor.drew)))).mono ?_); rintro e w1 ⟨rfl, bs, k, rfl⟩))
            obtain ⟨wn, hwn⟩ : ∃ wn, wn = more wr bs k := ⟨_, rfl⟩
            rw [← hwn]
            have HZn := Lib.hid (show Dat wn g zs by rw [hwn]; exact HZ.out.mor (Mor.refl _).more)
            have HOn := Lib.hid (show On g w wn by rw [hwn]; exact HOz.out.mor (Mor.refl _).more)
            clear hwn HKp
            obtain ⟨⟨dj, dj', dq, dq'⟩, gj, gj', gq, gq'⟩ := HCel.out _ HZn.out
            go_wp2
            go_region
            all_goals go_wp2
            go_roundw
            case rel => exact ⟨q, swp zs j q, rfl, by have := HQ.out; omega, by have := HQ.out; omega, HSw, HK, Lib.hid (Dat.drew (HDs.out _ HZn.out)), Lib.hid (On.drew (HO2.out _ HOn.out))⟩
            case measure => simp [intOf]; have := HQ.out; omega
          · have HK := Lib.hid (HN0.out hk)
            have hv : ¬ cv < 0 := fun h => hk (hsg.1 h)
            clear hk hsg
            go_wp2
            go_region_held3 (fun w' => w'.cell? ⟨g, j * 2, none⟩ = some (.int .i64 u.1) ∧ w'.cell? ⟨g, j * 2 + 1, none⟩ = some (.int .i64 u.2) ∧ w'.cell? ⟨g, q * 2, none⟩ = some (.int .i64 v.1) ∧ w'.cell? ⟨g, q * 2 + 1, none⟩ = some (.int .i64 v.2)) (exact HKp.out _ (by repeat (first | exact Mor.refl _ | apply Mor.alloc | apply Mor.more | apply Mor.drewN | apply Mor.drew))) (first | (go_at_fn c; (with_reducible refine (HCmp.out _ (On.of_mor (by repeat (first | exact Mor.refl _ | apply Mor.alloc | apply Mor.more | apply Mor.drewN | apply Mor.drew)))).mono ?_); rintro e w1 ⟨rfl, bs, k, rfl⟩))
            obtain ⟨wn, hwn⟩ : ∃ wn, wn = more wr bs k := ⟨_, rfl⟩
            rw [← hwn]
            have HZn := Lib.hid (show Dat wn g zs by rw [hwn]; exact HZ.out.mor (Mor.refl _).more)
            have HOn := Lib.hid (show On g w wn by rw [hwn]; exact HOz.out.mor (Mor.refl _).more)
            clear hwn HKp
            go_wp2
            go_roundw
            case rel => exact ⟨i + 1, zs, by go_num, by omega, by omega, HLz, Lib.hid (by rw [Nat.min_eq_left (by omega)]; exact HM'.out.step (HOut.out HK.out) (by omega)), HAz, HZn, HOn⟩
            case measure => simp [intOf]; omega
        · have hjai : ¬ ((a : Int) < (j : Int)) := by omega
          go_wp2
          go_quiet (fail)
          go_wp2
          go_roundw
          case rel => exact ⟨i + 1, zs, by go_num, by omega, by omega, HLz, Lib.hid (by rw [Nat.min_eq_left (by omega)]; exact HM'.out.step (HOut.out (fun h => absurd h hja)) (by omega)), HAz, Lib.hid (Dat.mor HZ.out (by repeat (first | exact Mor.refl _ | apply Mor.alloc | apply Mor.more | apply Mor.drewN | apply Mor.drew))), Lib.hid (On.mor HOz.out (by repeat (first | exact Mor.refl _ | apply Mor.alloc | apply Mor.more | apply Mor.drewN | apply Mor.drew)))⟩
          case measure => simp [intOf]; omega
    · have hibi : ¬ ((i : Int) < (b : Int)) := by omega
      have HM' := Lib.hid (show Mg key xs ys a b by have := HM.out; rw [Nat.min_eq_right (by omega)] at this; exact this)
      go_wp2
      go_end0
      exact ⟨rfl, ys, HM'.out, HY.out, HO.out⟩

end Go.Proofs.Ytphkckonnogjmaa
