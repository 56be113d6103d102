/- The walk of talkeep.StockAhead. -/
import Derived.Test.YtnahbblglalagaaAhdA
import Derived.BigRegion
namespace Go.Proofs.Ytnahbblglalagaa.stockAhead
open Go.ChangeShapes Go.WideShapes Go.ChangeAt Go.RowKit Stb
set_option linter.unusedVariables false

theorem beg_m : mvc [(2, 10), (2, 30), (-1, 0)] = 0 := by decide
theorem beg_s : meanS [(2, 10), (2, 30), (-1, 0)] 3 = some (3, 30, [10]) := by decide +kernel

set_option maxRecDepth 100000 in
set_option maxHeartbeats 6400000 in
theorem stockAhead_walk (w : World) (A : Option Addr) (n1 cap1 : Nat) (xs : List Pr) (hp : IsPr w A n1 cap1 xs) (B : Option Addr) (n2 cap2 : Nat) (ys : List Pr) (hq : IsPr w B n2 cap2 ys) (hs : n1 + n2 ≤ 17592186043904) :
    Calls Try.prog 3 #[.slice A n1 cap1, .slice B n2 cap2] w fun e w' => e = .returned (.bool true) ∧ Below w.heap.size w w' := by
  have HF1 := Lib.hid (fun w' (h : Mor w w') => fifo_any A n1 cap1 xs w' (hp.pi.mor h) hp.length (Nat.le_trans hp.le hp.max))
  have HM1 := Lib.hid (fun w' (h : Mor w w') => mean_any A n1 cap1 xs w' (hp.pi.mor h) hp.length (Nat.le_trans hp.le hp.max))
  have hla : (xs ++ ys).length = n1 + n2 := by rw [List.length_append, hp.length, hq.length]
  have HF2 := Lib.hid (fun w' D c (h : Pi w' D (xs ++ ys)) => fifo_any D (n1 + n2) c (xs ++ ys) w' h hla (by unfold maxLen; omega))
  have HM2 := Lib.hid (fun w' D c (h : Pi w' D (xs ++ ys)) => mean_any D (n1 + n2) c (xs ++ ys) w' h hla (by unfold maxLen; omega))
  have HCt := Lib.hid (fun w' (hm : Mor w w') g T (hb : Blk w' g T #[.slice A n1 cap1, .slice B n2 cap2]) => show Calls Try.prog 9 #[.slice (some ⟨g, 0, none⟩) 2 2] w' fun e w'' => ∃ D c, e = .returned (.slice D (n1 + n2) c) ∧ Pi w'' D (xs ++ ys) ∧ Mor w' w'' by
    by_cases h0 : 1 ≤ n1 + n2
    · exact concat_mv g A B n1 cap1 n2 cap2 xs ys w' T hb (hp.pi.mor hm) (hq.pi.mor hm) hp.length hq.length hp.nil hq.nil h0 hs
    · have e1 : n1 = 0 := by omega
      have e2 : n2 = 0 := by omega
      have e3 : xs ++ ys = [] := List.eq_nil_of_length_eq_zero (by omega)
      rw [e1, e2] at hb
      rw [e3, e1, e2]
      exact concat_zero g A B cap1 cap2 w' T hb)
  have HAh := Lib.hid (fun (h1 : fifoc xs = 0) (h2 : fifoc (xs ++ ys) = 0) => ahead h1 h2)
  have l1 := (outs_len (xs := xs)).1
  have l2 := (outs_len (xs := xs)).2
  have l3 := (outs_len (xs := xs ++ ys)).1
  have l4 := (outs_len (xs := xs ++ ys)).2
  clear hp hq hla
  generalize fifoO xs = o1 at *
  generalize meanO xs = o2 at *
  generalize fifoO (xs ++ ys) = o3 at *
  generalize meanO (xs ++ ys) = o4 at *
  generalize fifoc xs = r1 at *
  generalize fifoc (xs ++ ys) = r2 at *
  go_enter Try.func3, Try.ntmps3
  go_wp2_with fail
  refine (mean_ok _ 3 3 [(2, 10), (2, 30), (-1, 0)] (3, 30, [10]) _ (pl_new [(2, 10), (2, 30), (-1, 0)] rfl rfl) rfl beg_m beg_s).mono ?_
  rintro e w3 ⟨u, rfl, hm, hu⟩
  obtain ⟨Au, cu, rfl, -, -, -⟩ := own_shape hu
  have HMa := Lib.hid (show Mor w w3 from Mor.trans' (by repeat (first | exact Mor.refl _ | apply Mor.alloc)) hm)
  have HU := Lib.hid (own_ri hu)
  clear hm hu
  go_wp2_with fail
  have hL := Blk.new w3 25 #[.int .i64 3, .int .i64 30]
  obtain ⟨bL, hbL⟩ : ∃ g, g = w3.heap.size := ⟨_, rfl⟩
  have hU4 := HU.out.mor ((Mor.refl w3).alloc (o := .cells #[.int .i64 3, .int .i64 30] 25))
  have hM4 := HMa.out.alloc (o := .cells #[.int .i64 3, .int .i64 30] 25)
  rw [size_al w3 (.cells #[.int .i64 3, .int .i64 30] 25)]
  rw [← hbL] at hL ⊢
  clear hbL HU HMa
  generalize w3.alloc (.cells #[.int .i64 3, .int .i64 30] 25) = w4 at *
  refine (equal_ri Au _ 1 cu 1 [10] _ (hU4.mor (Mor.refl _).alloc) (Ri.of_row (row_lit [10] rfl rfl)) rfl (by omega)).mono ?_
  rintro e w5 ⟨rfl, hm⟩
  have hL5 := (hL.alloc (.cells #[.int .i64 10] 3)).below hm.below (hL.alloc (.cells #[.int .i64 10] 3)).lt
  have HM5 := Lib.hid (hM4.alloc.trans' hm)
  have g0 := hL5.cell 0
  have g1 := hL5.cell 1
  have gl := hL5.lt
  simp at g0 g1
  clear hm hL hU4 hM4 hL5
  go_wp2_with fail
  refine (HF1.out _ HM5.out).mono ?_
  rintro e w6 ⟨U6, c6, v6, rfl, hc6, hr6, hm⟩
  have HM6 := Lib.hid (HM5.out.trans' hm)
  have HR6 := Lib.hid (fun w' (h : Mor w6 w') => hr6.mor h)
  clear hm hr6 g0 g1 gl
  go_wp2_with fail
  refine (HM1.out _ HM6.out).mono ?_
  rintro e w7 ⟨U7, c7, a7, b7, rfl, hc7, hr7, hm⟩
  have HM67 := Lib.hid (hm.alloc (o := .cells #[.int .i64 a7, .int .i64 b7] 25))
  have HR7 := Lib.hid (fun w' (h : Mor w7 w') => hr7.mor h)
  clear hm hr7
  go_wp2_with fail
  rw [size_al w7 (.cells #[.int .i64 a7, .int .i64 b7] 25)]
  obtain ⟨bM, hbM⟩ : ∃ g, g = w7.heap.size := ⟨_, rfl⟩
  rw [← hbM]
  clear hbM
  have hm78 := (Mor.refl w7).alloc (o := .cells #[.int .i64 a7, .int .i64 b7] 25)
  generalize w7.alloc (.cells #[.int .i64 a7, .int .i64 b7] 25) = w8 at *
  have HM8 := Lib.hid (HM6.out.trans' HM67.out)
  have HR78 := Lib.hid (fun w' (h : Mor w8 w') => HR7.out w' (hm78.trans' h))
  have HR68 := Lib.hid (fun w' (h : Mor w8 w') => HR6.out w' (HM67.out.trans' h))
  clear hm78 HR7 HR6
  refine (HCt.out _ HM8.out.alloc _ _ (Blk.new w8 _ _)).mono ?_
  rintro e w9 ⟨D, cD, rfl, hpD, hm⟩
  have HM89 := Lib.hid ((Mor.refl w8).alloc.trans' hm)
  have HD := Lib.hid (HF2.out w9 D cD hpD)
  clear hm hpD
  go_wp2_with fail
  refine HD.out.mono ?_
  rintro e w10 ⟨U10, c10, v10, rfl, hc10, hr10, hm⟩
  have HM810 := Lib.hid (HM89.out.trans' hm)
  have HR10 := Lib.hid (fun w' (h : Mor w10 w') => hr10.mor h)
  clear hm hr10 HD
  go_wp2_with fail
  refine (HCt.out _ ((HM8.out.trans' HM810.out).alloc) _ _ (Blk.new w10 _ _)).mono ?_
  rintro e w11 ⟨D2, cD2, rfl, hpD, hm⟩
  have HM1011 := Lib.hid ((Mor.refl w10).alloc.trans' hm)
  have HD := Lib.hid (HM2.out w11 D2 cD2 hpD)
  clear hm hpD
  go_wp2_with fail
  refine HD.out.mono ?_
  rintro e w12 ⟨U12, c12, a12, b12, rfl, hc12, hr12, hm⟩
  have HM1012 := Lib.hid (HM1011.out.trans' hm)
  have HR12 := Lib.hid (fun w' (h : Mor w12 w') => hr12.mor h)
  have HM812 := Lib.hid (HM810.out.trans' HM1012.out)
  clear hm hr12 HD HCt HF1 HF2 HM1 HM2
  by_cases h1 : r1 = 0
  · subst h1
    by_cases h2 : r2 = 0
    · subst h2
      obtain ⟨p1, p2⟩ := HAh.out rfl rfl
      have q1 := p1.length_le
      have q2 := p2.length_le
      have e1 : o3.take o1.length = o1 := (List.prefix_iff_eq_take.1 p1).symm
      have e2 : o4.take o2.length = o2 := (List.prefix_iff_eq_take.1 p2).symm
      have HE1 := Lib.hid (fun w' (h : Mor w12 w') => show Ri w' U10 o1 by
        have := (HR10.out w' (HM1012.out.trans' h)).take (k := o1.length)
        rw [e1] at this; exact this)
      have HE2 := Lib.hid (fun w' (h : Mor w12 w') => show Ri w' U12 o2 by
        have := (HR12.out w' h).take (k := o2.length)
        rw [e2] at this; exact this)
      have HO1 := Lib.hid (fun w' (h : Mor w12 w') => HR68.out w' (HM812.out.trans' h))
      have HO2 := Lib.hid (fun w' (h : Mor w12 w') => HR78.out w' (HM812.out.trans' h))
      have HQ1 := Lib.hid (fun w' (h : Mor w12 w') => equal_ri U10 U6 o1.length c10 c6 o1 w' (HE1.out w' h) (HO1.out w' h) rfl (by omega))
      have HQ2 := Lib.hid (fun w' (h : Mor w12 w') => equal_ri U12 U7 o2.length c12 c7 o2 w' (HE2.out w' h) (HO2.out w' h) rfl (by omega))
      have i1 : (0 : Int) ≤ (o1.length : Int) := by omega
      have i2 : (o1.length : Int) ≤ (o3.length : Int) := by omega
      have i3 : (o1.length : Int) ≤ (c10 : Int) := by omega
      have i4 : (0 : Int) ≤ (o2.length : Int) := by omega
      have i5 : (o2.length : Int) ≤ (o4.length : Int) := by omega
      have i6 : (o2.length : Int) ≤ (c12 : Int) := by omega
      have d1 : decide ((o1.length : Int) ≤ (o3.length : Int)) = true := by simpa using q1
      have d2 : decide ((o2.length : Int) ≤ (o4.length : Int)) = true := by simpa using q2
      clear p1 p2 e1 e2 HAh HE1 HE2 HO1 HO2 HR10 HR12 HR68 HR78
      go_wp2_with fail
      refine (HQ1.out _ (Mor.refl _).alloc).mono ?_
      rintro e w13 ⟨rfl, hm⟩
      have HM1213 := Lib.hid ((Mor.refl w12).alloc.trans' hm)
      clear hm
      go_wp2_with fail
      refine (HQ2.out _ HM1213.out).mono ?_
      rintro e w14 ⟨rfl, hm⟩
      have HM1214 := Lib.hid (HM1213.out.trans' hm)
      clear hm
      go_wp2_with fail
      go_ret
      exact ⟨by simp, (HM8.out.trans' (HM812.out.trans' HM1214.out)).below⟩
    · have h2b : (r2 != 0) = true := by simpa using h2
      go_wp2_with fail
      go_ret
      exact ⟨by simp, (HM8.out.trans' HM812.out.alloc).below⟩
  · have h1b : (r1 != 0) = true := by simpa using h1
    go_wp2_with fail
    go_ret
    exact ⟨by simp, (HM8.out.trans' HM812.out.alloc).below⟩

end Go.Proofs.Ytnahbblglalagaa.stockAhead
