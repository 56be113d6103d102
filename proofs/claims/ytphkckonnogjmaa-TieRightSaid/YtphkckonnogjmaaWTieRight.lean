/- The walk of talkeep.TieRight. -/
import Derived.Test.YtphkckonnogjmaaBm
namespace Go.Proofs.Ytphkckonnogjmaa.tieRight
open Go.ChangeShapes Go.WideShapes Go.ChangeAt Go.RowKit Stb
set_option linter.unusedVariables false

theorem beg : tieF [(5, 7)] [(9, 7), (6, 7)] 4 = [1] := by decide
theorem beg_code : tiec [(5, 7)] [(9, 7), (6, 7)] 4 = 0 := by decide
/-- what was seen -/
def sn (t : List Int) (j : Nat) (x : Int) : Bool := decide (0 ≤ x) && (t.take j).contains x
theorem sn_zero (t : List Int) : sn t 0 = fun _ => false := by funext x; simp [sn]
theorem sn_iff {t : List Int} {j : Nat} {x : Int} : sn t j x = true ↔ 0 ≤ x ∧ x ∈ t.take j := by simp [sn]
theorem sn_succ (t : List Int) (j : Nat) (h : j < t.length) : (fun x => if x = ei t j then decide (0 ≤ ei t j) else sn t j x) = sn t (j + 1) := by
  have e : ei t j = t[j] := by unfold ei; rw [List.getD_eq_getElem?_getD, List.getElem?_eq_getElem h]; rfl
  have m : ∀ x, x ∈ t.take (j + 1) ↔ x ∈ t.take j ∨ x = ei t j := fun x => by rw [e, List.take_succ_eq_append_getElem h, List.mem_append, List.mem_singleton]
  funext x
  rw [Bool.eq_iff_iff, sn_iff, m]
  by_cases c : x = ei t j
  · rw [if_pos c, ← c, decide_eq_true_iff]
    exact ⟨fun h => ⟨h, .inr rfl⟩, fun h => h.1⟩
  · rw [if_neg c, sn_iff]
    exact ⟨fun h => ⟨h.1, .inl h.2⟩, fun h => ⟨h.1, h.2.resolve_right c⟩⟩
theorem sn_not {a b : List Pr} {v : Int} {j : Nat} (h : j < a.length) : sn (tieF a b v) j (ei (tieF a b v) j) = false := by
  unfold sn
  by_cases c : 0 ≤ ei (tieF a b v) j
  · rw [Bool.and_eq_false_iff]
    right
    rw [← Bool.not_eq_true]
    intro hc
    rw [List.contains_iff_mem] at hc
    obtain ⟨i, hi, e⟩ := List.getElem_of_mem hc
    have hl := tieF_len a b v
    rw [List.length_take] at hi
    have ee : ei (tieF a b v) i = (tieF a b v)[i]'(by omega) := by unfold ei; rw [List.getD_eq_getElem?_getD, List.getElem?_eq_getElem (by omega)]; rfl
    rw [List.getElem_take, ← ee] at e
    have := tieF_once a b v i j (by omega) h (by rw [e]; exact c) e
    omega
  · simp [c]

set_option maxRecDepth 100000 in
set_option maxHeartbeats 6400000 in
theorem tieRight_walk (w : World) (A : Option Addr) (na capa : Nat) (a : List Pr) (ha : IsPr w A na capa a) (B : Option Addr) (nb capb : Nat) (b : List Pr) (hb : IsPr w B nb capb b) (v : Int) (wv : (Lit.int .i64 v).wf = true) :
    Calls Try.prog 9 #[.slice A na capa, .slice B nb capb, .int .i64 v] w fun e w' => e = .returned (.bool true) ∧ Below w.heap.size w w' := by
  have HRa := Lib.hid ha.pi
  have HRb := Lib.hid hb.pi
  have HNa := Lib.hid ha.length
  have HNb := Lib.hid hb.length
  have HMa := Lib.hid (Nat.le_trans ha.le ha.max)
  have HMb := Lib.hid (Nat.le_trans hb.le hb.max)
  clear ha hb
  by_cases hc : tiec a b v = 0
  · obtain ⟨c1, c2, v1, v2⟩ := tiec_zero hc
    obtain ⟨a40, aok⟩ := itc_zero' c1
    obtain ⟨b40, bok⟩ := itc_zero' c2
    rw [HNa.out] at a40 aok
    rw [HNb.out] at b40 bok
    have HWa := Lib.hid (fun k (hk : k < na) => itOk_at aok hk)
    have HWb := Lib.hid (fun k (hk : k < nb) => itOk_at bok hk)
    have HT := Lib.hid (fun w h1 h2 => tie_ok A na capa a B nb capb b v w h1 h2 HNa.out HNb.out hc)
    have HLx := Lib.hid (show (tieF a b v).length = na by rw [tieF_len, HNa.out])
    have HAt := Lib.hid (fun i (hi : i < na) => tieF_at a b v i (by rw [HNa.out]; exact hi))
    have HSn := Lib.hid (fun i (hi : i < na) => sn_not (a := a) (b := b) (v := v) (j := i) (by rw [HNa.out]; exact hi))
    have HSs := Lib.hid (fun j (hj : j < na) => sn_succ (tieF a b v) j (by rw [HLx.out]; exact hj))
    have hmm := @run_makeMap Try.prog
    clear hc c1 c2 aok bok
    go_enter Try.func9, Try.ntmps9
    go_wp2_with fail
    refine (tie_ok _ 1 _ [(5, 7)] _ 2 _ [(9, 7), (6, 7)] 4 _ ((pi_new [(5, 7)] rfl rfl).mor (Mor.refl _).alloc) (pi_new [(9, 7), (6, 7)] (by rw [size_alloc]) rfl) rfl rfl beg_code).mono ?_
    rintro e w1 ⟨g0, rfl, hm0, hr⟩
    have HM0 := Lib.hid (show Mor w w1 from Mor.trans' (by repeat (first | exact Mor.refl _ | apply Mor.alloc)) hm0)
    rw [beg] at hr
    have HR := Lib.hid hr
    clear hm0 hr
    go_wp2_with fail
    refine (equal_yes _ _ _ _ _ _ 1 [1] _ (HR.out.alloc) (row_lit [1] (by simp) rfl) rfl (by omega)).mono ?_
    rintro e w2 ⟨rfl, m0, hw2⟩
    have HM2 := Lib.hid (show Mor w w2 by rw [hw2]; exact HM0.out.alloc.drewN)
    clear HR hw2 HM0
    go_wp2_with fail
    refine (HT.out _ (HRa.out.mor HM2.out) (HRb.out.mor HM2.out)).mono ?_
    rintro e w3 ⟨g3, rfl, hm3, hr3⟩
    rw [HNa.out]
    have HM3 := Lib.hid (HM2.out.trans' hm3)
    have HR3 := Lib.hid hr3
    clear hm3 hr3 HM2 HT
    go_wp2_with fail
    obtain ⟨gm, hgm⟩ : ∃ g, g = w3.heap.size := ⟨_, rfl⟩
    rw [← hgm]
    have HGM := Lib.hid hgm
    have HB0 := Lib.hid (show Bm (w3.alloc (.map #[] 0)) gm 0 (sn (tieF a b v) 0) by rw [hgm, sn_zero]; exact Bm.made w3)
    clear hgm hmm
    go_loopw [46] (fun i wr => ∃ j : Nat, j ≤ na ∧ i = .int .i64 j ∧ Hid (Bm wr gm j (sn (tieF a b v) j)) ∧ Hid (Below w3.heap.size w3 wr)) (fun i _ => na - (intOf i).toNat)
    case atStart => exact ⟨0, by omega, rfl, HB0, Lib.hid (Mor.refl _).alloc.below⟩
    case round =>
      obtain ⟨j, hj, rfl, HB, HX⟩ := hrel
      by_cases hlt : j < na
      · have hji : (j : Int) < (na : Int) := by omega
        have hj0 : (0 : Int) ≤ (j : Int) := by omega
        have cx := (HR3.out.below HX.out).get j (by rw [HLx.out]; exact hlt)
        rw [Nat.zero_add] at cx
        have hkd : (tieF a b v).getD j 0 = ei (tieF a b v) j := rfl
        rw [hkd] at cx
        have HS := Lib.hid (HSs.out j hlt)
        have HN := Lib.hid (HSn.out j hlt)
        have HK := Lib.hid (HAt.out j hlt)
        have hkw : (Lit.int .i64 (ei (tieF a b v) j)).wf = true := by
          rcases HK.out with h | ⟨k, h1, h2, _⟩
          · rw [h]; rfl
          · rw [h2]; exact WalkArith.wf_i64 (by have := HNb.out; omega)
        have HL := Lib.hid (fun W (h : Bm W gm j (sn (tieF a b v) j)) => h.look (ei (tieF a b v) j) hkw)
        rw [HN.out] at HL
        have HP := Lib.hid (fun W (h : Bm W gm j (sn (tieF a b v) j)) (u : Bool) => h.put (by unfold maxLen; omega) (ei (tieF a b v) j) hkw u)
        clear hkd
        rcases HK.out with hk | ⟨k, hk, hke, hok⟩
        · rw [hk] at cx HS HL
          clear hkw HN HK
          have hnn : ¬ ((nb : Int) ≤ -1) := by omega
          have hnb : decide ((nb : Int) ≤ -1) = false := by simpa using hnn
          go_wp2
          go_big_region
          go_wp2_with (at_mapUpdate; refine wpList_put_bm _ rfl _ _ _ rfl gm j _ rfl HB.out.drew (by unfold maxLen; omega) (-1) false rfl rfl rfl ?_)
          intro w5 hb5 hg5
          have HB5 := Lib.hid (show Bm w5 gm (j + 1) (sn (tieF a b v) (j + 1)) by rw [← HS.out]; simpa using hb5)
          have HX5 := Lib.hid ((bel_dN (k := 1) HX.out).grown hg5 (HX.out.size) (fun i hi => by cases hi; have := HGM.out; omega))
          clear hb5 hg5
          go_wp2
          go_roundw
          case rel => exact ⟨j + 1, by omega, by go_num, HB5, HX5⟩
          case measure => simp [intOf]; omega
        · rw [hke] at cx HS HL hkw
          obtain ⟨e1, e2, e3⟩ := okP_iff.1 hok
          simp only [Int.toNat_natCast] at e1 e2 e3
          obtain ⟨xA, hA, _, ca1, ca2⟩ := (HRa.out.mor (HM3.out.trans' (Mor.of_below HX.out))).at_ j (by rw [HNa.out]; exact hlt)
          obtain ⟨xB, hB, _, cb1, cb2⟩ := (HRb.out.mor (HM3.out.trans' (Mor.of_below HX.out))).at_ k hk
          subst hA hB
          have hk' : k < nb := by have := HNb.out; omega
          obtain ⟨wa1, wa2, _, _⟩ := HWa.out j hlt
          obtain ⟨wb1, wb2, _, _⟩ := HWb.out k hk'
          generalize px a j = xa at *
          generalize px b k = xb at *
          generalize py a j = ya at *
          generalize py b k = yb at *
          subst e1
          obtain ⟨f1, hf1⟩ : ∃ f, xb - xa = f := ⟨_, rfl⟩
          obtain ⟨f2, hf2⟩ : ∃ f, xa - xb = f := ⟨_, rfl⟩
          have hw1 : IntKind.i64.wrap f1 = f1 := IntWalk.i64_in _ (by omega)
          have hw2 : IntKind.i64.wrap f2 = f2 := IntWalk.i64_in _ (by omega)
          have hn1 : ¬ (v < f1) := by omega
          have hn2 : ¬ (v < f2) := by omega
          have hki : (k : Int) < (nb : Int) := by omega
          have hk0 : (0 : Int) ≤ (k : Int) := by omega
          have hkm : ¬ ((k : Int) < -1) := by omega
          have hkn : ¬ ((nb : Int) ≤ (k : Int)) := by omega
          have hkN : ¬ (nb ≤ k) := by omega
          have hb6 : decide (nb ≤ k) = false := decide_eq_false hkN
          have hb1 : decide ((k : Int) < -1) = false := decide_eq_false hkm
          have hb2 : decide ((nb : Int) ≤ (k : Int)) = false := decide_eq_false hkn
          have hb3 : decide ((0 : Int) ≤ (k : Int)) = true := decide_eq_true hk0
          have hb4 : decide (v < f1) = false := decide_eq_false hn1
          have hb5 : decide (v < f2) = false := decide_eq_false hn2
          have hl0 := HL.out wr HB.out
          have hl1 := HL.out wr.drew HB.out.drew
          clear e2 e3 wa1 wa2 wb1 wb2 HN HK hok hke
          go_wp2
          go_big_region
          go_wp2_with (at_mapUpdate; refine wpList_put_bm _ rfl _ _ _ rfl gm j _ rfl HB.out.drew (by unfold maxLen; omega) (k : Int) true rfl rfl hkw ?_)
          intro w5 hb5 hg5
          have HB5 := Lib.hid (show Bm w5 gm (j + 1) (sn (tieF a b v) (j + 1)) by rw [← HS.out]; simpa using hb5)
          have HX5 := Lib.hid ((bel_dN (k := 1) HX.out).grown hg5 (HX.out.size) (fun i hi => by cases hi; have := HGM.out; omega))
          clear hb5 hg5
          go_wp2
          go_roundw
          case rel => exact ⟨j + 1, by omega, by go_num, HB5, HX5⟩
          case measure => simp [intOf]; omega
      · obtain rfl : j = na := by omega
        go_wp2
        go_ret
        exact ⟨rfl, (HM3.out.trans' (Mor.of_below HX.out)).below⟩
  · have HF := Lib.hid (fun w h1 h2 => tie_no A na capa a B nb capb b v w h1 h2 HNa.out HNb.out HMa.out HMb.out hc)
    have hc2 : (tiec a b v == 0) = false := by simpa using hc
    generalize tiec a b v = c at *
    go_enter Try.func9, Try.ntmps9
    go_wp2_with fail
    refine (tie_ok _ 1 _ [(5, 7)] _ 2 _ [(9, 7), (6, 7)] 4 _ ((pi_new [(5, 7)] rfl rfl).mor (Mor.refl _).alloc) (pi_new [(9, 7), (6, 7)] (by rw [size_alloc]) rfl) rfl rfl beg_code).mono ?_
    rintro e w1 ⟨g0, rfl, hm0, hr⟩
    have HM0 := Lib.hid (show Mor w w1 from Mor.trans' (by repeat (first | exact Mor.refl _ | apply Mor.alloc)) hm0)
    rw [beg] at hr
    have HR := Lib.hid hr
    clear hm0 hr
    go_wp2_with fail
    refine (equal_yes _ _ _ _ _ _ 1 [1] _ (HR.out.alloc) (row_lit [1] (by simp) rfl) rfl (by omega)).mono ?_
    rintro e w2 ⟨rfl, m0, hw2⟩
    have HM2 := Lib.hid (show Mor w w2 by rw [hw2]; exact HM0.out.alloc.drewN)
    clear HR hw2 HM0
    go_wp2_with fail
    refine (HF.out _ (HRa.out.mor HM2.out) (HRb.out.mor HM2.out)).mono ?_
    rintro e w3 ⟨rfl, hm3⟩
    have HM3 := Lib.hid (HM2.out.trans' hm3)
    go_wp2_with fail
    go_ret
    exact ⟨rfl, HM3.out.below⟩

end Go.Proofs.Ytphkckonnogjmaa.tieRight
