/- The walk of talkeep.TieMost. -/
import Derived.Test.YtphkckonnogjmaaBm
namespace Go.Proofs.Ytphkckonnogjmaa.tieMost
open Go.ChangeShapes Go.WideShapes Go.ChangeAt Go.RowKit Stb
set_option linter.unusedVariables false

theorem beg : tieF [(5, 1), (3, 1)] [(2, 1), (6, 1)] 3 = [1, 0] := by decide
theorem beg_code : tiec [(5, 1), (3, 1)] [(2, 1), (6, 1)] 3 = 0 := by decide

/-- one of the other way's, if it is one at all -/
def gv (nb : Nat) (o : Int) : Int := if 0 ≤ o ∧ o < nb then o else -1
/-- so far it is a way -/
structure Ways (a b : List Pr) (v : Int) (os : List Int) : Prop where
  ok : ∀ i, i < os.length → 0 ≤ ei os i → ei os i < b.length ∧ okP a b v i (ei os i)
  once : ∀ i j, i < os.length → j < os.length → 0 ≤ ei os i → ei os i = ei os j → i = j
theorem ei_app_l {xs ys : List Int} {i : Nat} (h : i < xs.length) : ei (xs ++ ys) i = ei xs i := by
  unfold ei; rw [List.getD_eq_getElem?_getD, List.getD_eq_getElem?_getD, List.getElem?_append_left h]
theorem ei_app_r {xs : List Int} {n i : Nat} (h : xs.length ≤ i) (h2 : i < xs.length + n) : ei (xs ++ List.replicate n (-1)) i = -1 := by
  unfold ei; rw [List.getD_eq_getElem?_getD, List.getElem?_append_right h, List.getElem?_replicate, if_pos (by omega)]; rfl
theorem ways_le {a b : List Pr} {v : Int} {os : List Int} (h : Ways a b v os) (hl : os.length ≤ a.length) : tied os ≤ tied (tieF a b v) := by
  obtain ⟨n, hn⟩ : ∃ n, n = a.length - os.length := ⟨_, rfl⟩
  have hlen : (os ++ List.replicate n (-1)).length = a.length := by simp; omega
  have e : tied (os ++ List.replicate n (-1)) = tied os := by
    have h0 := tied_rep n
    unfold tied at h0 ⊢
    rw [List.filter_append, List.length_append, h0, Nat.add_zero]
  have hat : ∀ i, i < a.length → 0 ≤ ei (os ++ List.replicate n (-1)) i → i < os.length ∧ ei (os ++ List.replicate n (-1)) i = ei os i := fun i hi h0 => by
    rcases Nat.lt_or_ge i os.length with c | c
    · exact ⟨c, ei_app_l c⟩
    · rw [ei_app_r c (by omega)] at h0; omega
  have hc := can_of (ok := okP a b v) (fun i => ei (os ++ List.replicate n (-1)) i.toNat) (idx_nodup a.length) (bs := idx b.length) (fun i hi h0 => by
    obtain ⟨k, hk, rfl⟩ := mem_idx.1 hi
    simp only [Int.toNat_natCast] at h0 ⊢
    obtain ⟨h1, h2⟩ := hat k hk h0
    rw [h2] at h0 ⊢
    obtain ⟨h3, h4⟩ := h.ok k h1 h0
    exact ⟨mem_idx.2 ⟨(ei os k).toNat, by omega, by omega⟩, h4⟩) (fun i hi j hj h0 he => by
    obtain ⟨k, hk, rfl⟩ := mem_idx.1 hi
    obtain ⟨l, hl, rfl⟩ := mem_idx.1 hj
    simp only [Int.toNat_natCast] at h0 he
    obtain ⟨h1, h2⟩ := hat k hk h0
    obtain ⟨h3, h4⟩ := hat l hl (by rw [← he]; exact h0)
    rw [h2] at h0 he
    rw [h4] at he
    rw [h.once k l h1 h3 h0 he])
  rw [← e, tied_idx, hlen]
  exact tieF_most a b v hc
theorem gv_len (nb : Nat) (os : List Int) (j : Nat) (h : j ≤ os.length) : ((os.take j).map (gv nb)).length = j := by simp; omega
theorem gv_succ (nb : Nat) (os : List Int) (j : Nat) (h : j < os.length) : (os.take (j + 1)).map (gv nb) = (os.take j).map (gv nb) ++ [gv nb (ei os j)] := by
  rw [List.take_succ_eq_append_getElem h, List.map_append]
  congr 1
  unfold ei
  rw [List.getD_eq_getElem?_getD, List.getElem?_eq_getElem h]; rfl
theorem ei_snoc {xs : List Int} {x : Int} {i : Nat} (h : i < xs.length + 1) : ei (xs ++ [x]) i = if i = xs.length then x else ei xs i := by
  by_cases c : i = xs.length
  · subst c; rw [if_pos rfl]; unfold ei; rw [List.getD_eq_getElem?_getD, List.getElem?_append_right (Nat.le_refl _)]; simp
  · rw [if_neg c, ei_app_l (by omega)]
theorem Ways.nil (a b : List Pr) (v : Int) : Ways a b v [] := ⟨fun i hi => absurd hi (Nat.not_lt_zero _), fun i j hi => absurd hi (Nat.not_lt_zero _)⟩
theorem Ways.skip {a b : List Pr} {v : Int} {os : List Int} (h : Ways a b v os) : Ways a b v (os ++ [-1]) := by
  refine ⟨fun i hi h0 => ?_, fun i j hi hj h0 he => ?_⟩
  · rw [ei_snoc (by simpa using hi)] at h0 ⊢
    split at h0
    · omega
    · rename_i c
      rw [if_neg c]
      exact h.ok i (by simp at hi; omega) h0
  · rw [ei_snoc (by simpa using hi)] at h0 he
    rw [ei_snoc (by simpa using hj)] at he
    split at h0
    · omega
    · rename_i c
      rw [if_neg c] at he
      split at he
      · omega
      · rename_i d
        exact h.once i j (by simp at hi; omega) (by simp at hj; omega) h0 he
theorem Ways.put {a b : List Pr} {v : Int} {os : List Int} {n k : Nat} (h : Ways a b v os) (hn : os.length = n) (hk : k < b.length) (hok : okP a b v (n : Int) (k : Int)) (hf : (k : Int) ∉ os) : Ways a b v (os ++ [(k : Int)]) := by
  have hm : ∀ i, i < os.length → ei os i ≠ (k : Int) := fun i hi e => hf (by
    rw [← e]; unfold ei; rw [List.getD_eq_getElem?_getD, List.getElem?_eq_getElem hi]; exact List.getElem_mem hi)
  refine ⟨fun i hi h0 => ?_, fun i j hi hj h0 he => ?_⟩
  · rw [ei_snoc (by simpa using hi)] at h0 ⊢
    split
    · rename_i c
      rw [c, hn]
      exact ⟨by omega, hok⟩
    · rename_i c
      rw [if_neg c] at h0
      exact h.ok i (by simp at hi; omega) h0
  · rw [ei_snoc (by simpa using hi)] at h0 he
    rw [ei_snoc (by simpa using hj)] at he
    simp at hi hj
    by_cases c : i = os.length <;> by_cases d : j = os.length
    · omega
    · rw [if_pos c, if_neg d] at he; exact absurd he.symm (hm j (by omega))
    · rw [if_neg c, if_pos d] at he; exact absurd he (hm i (by omega))
    · rw [if_neg c] at he h0; rw [if_neg d] at he; exact h.once i j (by omega) (by omega) h0 he
theorem tied_app (xs : List Int) (x : Int) : tied (xs ++ [x]) = tied xs + if 0 ≤ x then 1 else 0 := by
  unfold tied
  rw [List.filter_append, List.length_append]
  congr 1
  by_cases c : 0 ≤ x
  · rw [List.filter_cons_of_pos (by simpa using c), if_pos c]; rfl
  · rw [List.filter_cons_of_neg (by simpa using c), if_neg c]; rfl
theorem tied_len (xs : List Int) : tied xs ≤ xs.length := List.length_filter_le _ _
/-- what is used -/
def us (os : List Int) (x : Int) : Bool := decide (0 ≤ x) && os.contains x
theorem us_nil : us [] = fun _ => false := by funext x; simp [us]
theorem us_skip (os : List Int) : us (os ++ [-1]) = us os := by
  funext x
  unfold us
  rw [Bool.eq_iff_iff]
  simp only [Bool.and_eq_true, decide_eq_true_iff, List.contains_iff_mem, List.mem_append, List.mem_singleton]
  exact ⟨fun h => ⟨h.1, h.2.resolve_right (by omega)⟩, fun h => ⟨h.1, .inl h.2⟩⟩
theorem us_put (os : List Int) (k : Nat) : (fun x => if x = (k : Int) then true else us os x) = us (os ++ [(k : Int)]) := by
  funext x
  unfold us
  rw [Bool.eq_iff_iff]
  simp only [Bool.and_eq_true, decide_eq_true_iff, List.contains_iff_mem, List.mem_append, List.mem_singleton]
  by_cases c : x = (k : Int)
  · rw [if_pos c]; exact ⟨fun _ => ⟨by omega, .inr c⟩, fun _ => rfl⟩
  · rw [if_neg c]
    simp only [Bool.and_eq_true, decide_eq_true_iff, List.contains_iff_mem]
    exact ⟨fun h => ⟨h.1, .inl h.2⟩, fun h => ⟨h.1, h.2.resolve_right c⟩⟩
theorem us_false {os : List Int} {k : Nat} (h : us os (k : Int) = false) : (k : Int) ∉ os := fun hm => by
  have : us os (k : Int) = true := by
    unfold us
    simp only [Bool.and_eq_true, decide_eq_true_iff, List.contains_iff_mem]
    exact ⟨by omega, hm⟩
  rw [h] at this; cases this

set_option maxRecDepth 100000 in
set_option maxHeartbeats 6400000 in
theorem tieMost_walk (w : World) (A : Option Addr) (na capa : Nat) (a : List Pr) (ha : IsPr w A na capa a) (B : Option Addr) (nb capb : Nat) (b : List Pr) (hb : IsPr w B nb capb b) (v : Int) (wv : (Lit.int .i64 v).wf = true) (C : Option Addr) (nc capc : Nat) (zs : List Int) (hz : IsRow .i64 w C nc capc zs) :
    Calls Try.prog 10 #[.slice A na capa, .slice B nb capb, .int .i64 v, .slice C nc capc] w fun e w' => e = .returned (.bool true) ∧ Below w.heap.size w w' := by
  have HRa := Lib.hid ha.pi
  have HRb := Lib.hid hb.pi
  have HNa := Lib.hid ha.length
  have HNb := Lib.hid hb.length
  have HMa := Lib.hid (Nat.le_trans ha.le ha.max)
  have HMb := Lib.hid (Nat.le_trans hb.le hb.max)
  obtain ⟨hri, hlen, hcap, hmax, hwf, hnil⟩ := Ri.of_isRow hz
  generalize zs.take nc = os at *
  have HRc := Lib.hid hri
  have HNc := Lib.hid hlen
  have hml : (nc : Int) ≤ 9223372036854775807 := by unfold maxLen at hmax; omega
  have HWc := Lib.hid (fun i (hi : i < nc) => hwf _ (getD_mem os i (by omega)))
  clear ha hb hz hri hlen hmax hwf
  by_cases hc : tiec a b v = 0
  · obtain ⟨c1, c2, v1, v2⟩ := tiec_zero hc
    obtain ⟨a40, aok⟩ := itc_zero' c1
    obtain ⟨b40, bok⟩ := itc_zero' c2
    rw [HNa.out] at a40 aok
    rw [HNb.out] at b40 bok
    have HWa := Lib.hid (fun k (hk : k < na) => itOk_at aok hk)
    have HWb := Lib.hid (fun k (hk : k < nb) => itOk_at bok hk)
    have HT := Lib.hid (fun w h1 h2 => tie_ok A na capa a B nb capb b v w h1 h2 HNa.out HNb.out hc)
    have HLx := Lib.hid (show (tieF a b v).length = na by rw [tieF_len, HNa.out])
    have HMo := Lib.hid (fun os (h : Ways a b v os) (hl : os.length ≤ na) => ways_le h (by rw [HNa.out]; exact hl))
    obtain ⟨L, hL⟩ : ∃ L, L = min nc na := ⟨_, rfl⟩
    have hL1 : L ≤ nc := by omega
    have hL2 : L ≤ na := by omega
    have hif : (if (na : Int) < (nc : Int) then (na : Int) else (nc : Int)) = (L : Int) := by split <;> omega
    have hif2 : (if na < nc then (na : Int) else (nc : Int)) = (L : Int) := by split <;> omega
    have hLc : L ≤ capc := by omega
    have hL0 : (0 : Int) ≤ (L : Int) := by omega
    have hLi : (L : Int) ≤ (capc : Int) := by omega
    have hmm := @run_makeMap Try.prog
    clear hc c1 c2 aok bok hL
    go_enter Try.func10, Try.ntmps10
    go_wp2_with fail
    refine (tie_ok _ 2 _ [(5, 1), (3, 1)] _ 2 _ [(2, 1), (6, 1)] 3 _ ((pi_new [(5, 1), (3, 1)] rfl rfl).mor (Mor.refl _).alloc) (pi_new [(2, 1), (6, 1)] (by rw [size_alloc]) rfl) rfl rfl beg_code).mono ?_
    rintro e w1 ⟨g0, rfl, hm0, hr⟩
    have HM0 := Lib.hid (show Mor w w1 from Mor.trans' (by repeat (first | exact Mor.refl _ | apply Mor.alloc)) hm0)
    rw [beg] at hr
    have HR := Lib.hid hr
    clear hm0 hr
    go_wp2_with fail
    refine (equal_yes _ _ _ _ _ _ 2 [1, 0] _ (HR.out.alloc) (row_lit [1, 0] (by simp) rfl) rfl (by omega)).mono ?_
    rintro e w2 ⟨rfl, m0, hw2⟩
    have HM2 := Lib.hid (show Mor w w2 by rw [hw2]; exact HM0.out.alloc.drewN)
    clear HR hw2 HM0
    go_wp2_with fail
    refine (HT.out _ (HRa.out.mor HM2.out) (HRb.out.mor HM2.out)).mono ?_
    rintro e w3 ⟨g3, rfl, hm3, hr3⟩
    rw [HNa.out]
    have HM3 := Lib.hid (HM2.out.trans' hm3)
    have HR3 := Lib.hid hr3
    clear hm3 hr3 HM2 HT
    go_wp2_with fail
    obtain ⟨gm, hgm⟩ : ∃ g, g = w3.heap.size := ⟨_, rfl⟩
    rw [← hgm]
    have HGM := Lib.hid hgm
    have HB0 := Lib.hid (show Bm (w3.alloc (.map #[] 0)) gm 0 (us ((os.take 0).map (gv nb))) by rw [hgm, List.take_zero, List.map_nil, us_nil]; exact Bm.made w3)
    clear hgm hmm hif hif2
    go_loopw [14, 59] (fun mv i wr => ∃ j : Nat, j ≤ L ∧ i = .int .i64 j ∧ mv = .int .i64 (tied ((os.take j).map (gv nb))) ∧ Hid (Ways a b v ((os.take j).map (gv nb))) ∧ Hid (Bm wr gm j (us ((os.take j).map (gv nb)))) ∧ Hid (Below w3.heap.size w3 wr)) (fun _ i _ => L - (intOf i).toNat)
    case atStart => exact ⟨0, by omega, rfl, rfl, Lib.hid (Ways.nil _ _ _), HB0, Lib.hid (Mor.refl _).alloc.below⟩
    case round =>
      obtain ⟨j, hj, rfl, rfl, HY, HB, HX⟩ := hrel
      have HLj := Lib.hid (gv_len nb os j (by rw [HNc.out]; omega))
      have htl := tied_len ((os.take j).map (gv nb))
      rw [HLj.out] at htl
      by_cases hlt : j < L
      · have hji : (j : Int) < (L : Int) := by omega
        have hj0 : (0 : Int) ≤ (j : Int) := by omega
        have hja : (j : Int) < (na : Int) := by omega
        have hjan : j < na := by omega
        obtain ⟨xC, hC, _, cx⟩ := (HRc.out.mor (HM3.out.trans' (Mor.of_below HX.out))).at_ j (by rw [HNc.out]; omega)
        subst hC
        have HS := Lib.hid (gv_succ nb os j (by rw [HNc.out]; omega))
        have hkw := HWc.out j (by omega)
        have hkd : os.getD j 0 = ei os j := rfl
        rw [hkd] at cx hkw
        generalize ei os j = o at *
        generalize hps : (os.take j).map (gv nb) = ps at *
        clear hps hkd
        by_cases ho : o < 0
        · have hg : gv nb o = -1 := by unfold gv; rw [if_neg (by omega)]
          rw [hg] at HS
          have HT2 := Lib.hid (show tied (ps ++ [-1]) = tied ps by rw [tied_app]; rfl)
          have HY2 := Lib.hid HY.out.skip
          have HU2 := Lib.hid (us_skip ps)
          go_wp2
          refine ⟨⟨j + 1, by omega, by go_num, by rw [HS.out, HT2.out], Lib.hid (by rw [HS.out]; exact HY2.out), Lib.hid (by rw [HS.out, HU2.out]; exact HB.out.mono (by omega)), HX⟩, by simp [intOf]; omega⟩
        · by_cases ho2 : (nb : Int) ≤ o
          · have hg : gv nb o = -1 := by unfold gv; rw [if_neg (by omega)]
            rw [hg] at HS
            have HT2 := Lib.hid (show tied (ps ++ [-1]) = tied ps by rw [tied_app]; rfl)
            have HY2 := Lib.hid HY.out.skip
            have HU2 := Lib.hid (us_skip ps)
            go_wp2
            refine ⟨⟨j + 1, by omega, by go_num, by rw [HS.out, HT2.out], Lib.hid (by rw [HS.out]; exact HY2.out), Lib.hid (by rw [HS.out, HU2.out]; exact HB.out.mono (by omega)), HX⟩, by simp [intOf]; omega⟩
          · obtain ⟨k, rfl⟩ := Int.eq_ofNat_of_zero_le (show 0 ≤ o by omega)
            have hk' : k < nb := by omega
            have hg : gv nb (k : Int) = (k : Int) := by unfold gv; rw [if_pos ⟨by omega, by omega⟩]
            rw [hg] at HS
            have hki : (k : Int) < (nb : Int) := by omega
            have hk0 : (0 : Int) ≤ (k : Int) := by omega
            have hkN : ¬ (nb ≤ k) := by omega
            clear ho ho2 hg
            obtain ⟨xA, hA, _, ca1, ca2⟩ := (HRa.out.mor (HM3.out.trans' (Mor.of_below HX.out))).at_ j (by rw [HNa.out]; exact hjan)
            obtain ⟨xB, hB, _, cb1, cb2⟩ := (HRb.out.mor (HM3.out.trans' (Mor.of_below HX.out))).at_ k (by rw [HNb.out]; exact hk')
            subst hA hB
            obtain ⟨wa1, wa2, _, _⟩ := HWa.out j hjan
            obtain ⟨wb1, wb2, _, _⟩ := HWb.out k hk'
            have HOK := Lib.hid (fun (h1 : py a j = py b k) (h2 : px a j - px b k ≤ v) (h3 : px b k - px a j ≤ v) => show okP a b v (j : Int) (k : Int) from okP_iff.2 ⟨by simpa using h1, by simpa using h2, by simp; omega⟩)
            have HPut := Lib.hid (fun (h1 : okP a b v (j : Int) (k : Int)) (h2 : us ps (k : Int) = false) => HY.out.put HLj.out (by rw [HNb.out]; exact hk') h1 (us_false h2))
            have HT2 := Lib.hid (show ((tied (ps ++ [(k : Int)]) : Nat) : Int) = (tied ps : Int) + 1 by rw [tied_app, if_pos (by omega)]; rfl)
            have HUP := Lib.hid (us_put ps k)
            have hl0 := HB.out.look (k : Int) hkw
            have hl1 := HB.out.drew.look (k : Int) hkw
            generalize hu : us ps (k : Int) = u at *
            generalize px a j = xa at *
            generalize px b k = xb at *
            generalize py a j = ya at *
            generalize py b k = yb at *
            obtain ⟨f1, hf1⟩ : ∃ f, xb - xa = f := ⟨_, rfl⟩
            obtain ⟨f2, hf2⟩ : ∃ f, xa - xb = f := ⟨_, rfl⟩
            have hw1 : IntKind.i64.wrap f1 = f1 := IntWalk.i64_in _ (by omega)
            have hw2 : IntKind.i64.wrap f2 = f2 := IntWalk.i64_in _ (by omega)
            rw [hf1, hf2] at HOK
            clear wa1 wa2 wb1 wb2 hu
            have HMR := Lib.hid (HM3.out.trans' (Mor.of_below HX.out))
            have hcase : u = true ∨ (u = false ∧ ya ≠ yb) ∨ (u = false ∧ ya = yb ∧ v < f1) ∨ (u = false ∧ ya = yb ∧ f1 ≤ v ∧ v < f2) ∨ (u = false ∧ ya = yb ∧ f1 ≤ v ∧ f2 ≤ v) := by
              cases u
              · right
                by_cases e : ya = yb
                · right; simp only [e, true_and]; omega
                · left; exact ⟨rfl, e⟩
              · left; rfl
            rcases hcase with h | ⟨h, g1⟩ | ⟨h, g1, g2⟩ | ⟨h, g1, g2, g3⟩ | ⟨h, g1, g2, g3⟩
            · subst h
              go_wp2
              go_big_region
              go_wp2
              go_ret
              exact ⟨rfl, HMR.out.drew.below⟩
            · subst h
              have g1' : ¬ (yb = ya) := fun e => g1 e.symm
              have gb : (yb == ya) = false := by simpa using g1'
              have gb2 : decide (yb = ya) = false := decide_eq_false g1'
              have gb3 : (yb != ya) = true := by simpa using g1'
              go_wp2
              go_big_region
              go_wp2
              go_ret
              exact ⟨rfl, HMR.out.drew.below⟩
            · subst h g1
              have gb : decide (v < f1) = true := by simpa using g2
              go_wp2
              go_big_region
              go_wp2
              go_ret
              exact ⟨rfl, HMR.out.drew.below⟩
            · subst h g1
              have gx : ¬ (v < f1) := by omega
              have gb : decide (v < f1) = false := by simpa using g2
              have gc : decide (v < f2) = true := by simpa using g3
              go_wp2
              go_big_region
              go_wp2
              go_ret
              exact ⟨rfl, HMR.out.drew.below⟩
            · subst h g1
              have gx : ¬ (v < f1) := by omega
              have gy : ¬ (v < f2) := by omega
              have gb : decide (v < f1) = false := by simpa using g2
              have gc : decide (v < f2) = false := by simpa using g3
              have HY2 := Lib.hid (HPut.out (HOK.out rfl g3 g2) rfl)
              generalize htp : tied ps = tp at *
              clear htp
              go_wp2
              go_big_region
              go_wp2_with (at_mapUpdate; refine wpList_put_bm _ rfl _ _ _ rfl gm j _ rfl HB.out.drew (by unfold maxLen; omega) (k : Int) true rfl rfl hkw ?_)
              intro w5 hb5 hg5
              have HB5 := Lib.hid (show Bm w5 gm (j + 1) (us (ps ++ [(k : Int)])) by rw [← HUP.out]; simpa using hb5)
              have HX5 := Lib.hid ((bel_dN (k := 1) HX.out).grown hg5 (HX.out.size) (fun i hi => by cases hi; have := HGM.out; omega))
              clear hb5 hg5
              go_wp2
              go_roundw
              case rel => exact ⟨j + 1, by omega, by go_num, by rw [HS.out, HT2.out], Lib.hid (by rw [HS.out]; exact HY2.out), Lib.hid (by rw [HS.out]; exact HB5.out), HX5⟩
              case measure => simp [intOf]; omega
      · obtain rfl : j = L := by omega
        have HLe := Lib.hid (HMo.out _ HY.out (by rw [HLj.out]; exact hL2))
        generalize tied ((os.take j).map (gv nb)) = tp at *
        go_wp2
        go_loopw [17, 125] (fun mv i wq => ∃ p : Nat, p ≤ na ∧ i = .int .i64 p ∧ mv = .int .i64 (tied ((tieF a b v).take p)) ∧ wq = wr) (fun _ i _ => na - (intOf i).toNat)
        case atStart => exact ⟨0, by omega, rfl, rfl, rfl⟩
        case round =>
          obtain ⟨p, hp, rfl, rfl, rfl⟩ := hrel
          by_cases hpt : p < na
          · have hpi : (p : Int) < (na : Int) := by omega
            have hp0 : (0 : Int) ≤ (p : Int) := by omega
            have cx := (HR3.out.below HX.out).get p (by rw [HLx.out]; exact hpt)
            rw [Nat.zero_add] at cx
            have HSp := Lib.hid (tied_succ (tieF a b v) p (by rw [HLx.out]; exact hpt))
            have ht := tied_le (tieF a b v) p
            generalize tied ((tieF a b v).take p) = t at *
            generalize (tieF a b v).getD p 0 = y at *
            by_cases c : 0 ≤ y
            · go_wp2
              go_roundw
              case rel => exact ⟨p + 1, by omega, by go_num, by rw [HSp.out, if_pos c]; rfl, trivial⟩
              case measure => simp [intOf]; omega
            · go_wp2
              go_roundw
              case rel => exact ⟨p + 1, by omega, by go_num, by rw [HSp.out, if_neg c]; rfl, trivial⟩
              case measure => simp [intOf]; omega
          · obtain rfl : p = na := by omega
            have HE := Lib.hid (show tied ((tieF a b v).take p) = tied (tieF a b v) by rw [List.take_of_length_le (by rw [HLx.out]; exact Nat.le_refl _)])
            rw [HE.out]
            have hle := HLe.out
            generalize tied (tieF a b v) = t at *
            go_wp2
            go_ret
            exact ⟨ret_b (by first | rfl | (simp; done) | (simp; omega)), (HM3.out.trans' (Mor.of_below HX.out)).below⟩
  · have HF := Lib.hid (fun w h1 h2 => tie_no A na capa a B nb capb b v w h1 h2 HNa.out HNb.out HMa.out HMb.out hc)
    have hc2 : (tiec a b v == 0) = false := by simpa using hc
    generalize tiec a b v = c at *
    go_enter Try.func10, Try.ntmps10
    go_wp2_with fail
    refine (tie_ok _ 2 _ [(5, 1), (3, 1)] _ 2 _ [(2, 1), (6, 1)] 3 _ ((pi_new [(5, 1), (3, 1)] rfl rfl).mor (Mor.refl _).alloc) (pi_new [(2, 1), (6, 1)] (by rw [size_alloc]) rfl) rfl rfl beg_code).mono ?_
    rintro e w1 ⟨g0, rfl, hm0, hr⟩
    have HM0 := Lib.hid (show Mor w w1 from Mor.trans' (by repeat (first | exact Mor.refl _ | apply Mor.alloc)) hm0)
    rw [beg] at hr
    have HR := Lib.hid hr
    clear hm0 hr
    go_wp2_with fail
    refine (equal_yes _ _ _ _ _ _ 2 [1, 0] _ (HR.out.alloc) (row_lit [1, 0] (by simp) rfl) rfl (by omega)).mono ?_
    rintro e w2 ⟨rfl, m0, hw2⟩
    have HM2 := Lib.hid (show Mor w w2 by rw [hw2]; exact HM0.out.alloc.drewN)
    clear HR hw2 HM0
    go_wp2_with fail
    refine (HF.out _ (HRa.out.mor HM2.out) (HRb.out.mor HM2.out)).mono ?_
    rintro e w3 ⟨rfl, hm3⟩
    have HM3 := Lib.hid (HM2.out.trans' hm3)
    go_wp2_with fail
    go_ret
    exact ⟨rfl, HM3.out.below⟩

end Go.Proofs.Ytphkckonnogjmaa.tieMost
