/- The walk of talkeep.BookOrder. -/
import Derived.Test.YtpgefclnplmlkaaOrdB
import Derived.BigRegion
import Derived.Deep.RegionHeld3
import Derived.Deep.DeepCutAuto
namespace Go.Proofs.Ytpgefclnplmlkaa.bookOrder
open Go.ChangeShapes Go.WideShapes Go.ChangeAt Go.RowKit Go.PlainAid
set_option linter.unusedVariables false

set_option maxRecDepth 100000 in
set_option maxHeartbeats 3200000 in
theorem bookOrder_walk (w : World) (A : Option Addr) (n c : Nat) (X : Option Addr) (m k : Nat) (b : Bok) (hb : Bq w A n c X m k b) (E : Option Addr) (p q : Nat) (es : List En) (he : Es w E es ∧ es.length = p ∧ p ≤ q ∧ q ≤ maxLen ∧ (E = none → p = 0)) (v1 : Int) (w1 : (Lit.int .i64 v1).wf = true) :
    Calls Try.prog 8 #[bv A n c X m k b.shut, .slice E p q, .int .i64 v1] w fun e w' => e = .returned (.bool true) ∧ Below w.heap.size w w' := by
  obtain ⟨he, hel, hpq, hq63, hEn⟩ := he
  unfold maxLen at hq63
  obtain ⟨P, hP, hPp, hP20⟩ : ∃ P : Nat, min (p : Int) 20 = (P : Int) ∧ P ≤ p ∧ P ≤ 20 := by
    by_cases h : p ≤ 20
    · exact ⟨p, by omega, Nat.le_refl _, h⟩
    · exact ⟨20, by omega, by omega, Nat.le_refl _⟩
  have hP0 : (0 : Int) ≤ (P : Int) := by omega
  have hPq : (P : Int) ≤ (q : Int) := by omega
  obtain ⟨i0, hi0, hz0, hz1, hz2⟩ := info_parts info_entry
  have HCk := Lib.hid (fun w' (h : Mor w w') => bcheck_any A n c X m k b w' (hb.mor h))
  have HB := Lib.hid hb
  have HE := Lib.hid (fun w' (h : Mor w w') => he.mor h)
  have HEl := Lib.hid hel
  generalize hsh : b.shut = sh at *
  have HSh := Lib.hid hsh
  clear hb w1 hsh he hel hEn
  go_enter Try.func8, Try.ntmps8
  go_wp2_with fail
  refine (begun_any _).mono ?_
  rintro e w2 ⟨rfl, hm⟩
  have hP := (C3.new w (.slice A n c) (.slice X m k) (.int .i64 sh) 25).mor hm
  have hM2 := (Mor.refl w).alloc.trans' hm
  obtain ⟨bP, hbP⟩ : ∃ g, g = w.heap.size := ⟨_, rfl⟩
  rw [← hbP] at hP ⊢
  obtain ⟨c0, c1, c2, cl⟩ := hP
  have HP2 := Lib.hid (show C3 w2 bP (.slice A n c) (.slice X m k) (.int .i64 sh) from ⟨c0, c1, c2, cl⟩)
  have HM2 := Lib.hid hM2
  have HwP := Lib.hid (show w.heap.size ≤ bP by omega)
  clear hM2 hm hbP
  go_wp2_with fail
  refine (HCk.out _ HM2.out).mono ?_
  rintro e w3 ⟨rfl, hm⟩
  have HP3 := Lib.hid (HP2.out.mor hm)
  have HM3 := Lib.hid (HM2.out.trans' hm)
  clear hm c0 c1 c2 cl HP2 HCk
  by_cases hc : bookc b = 0
  · have hbo := (bookc_iff b).1 hc
    rw [hc]
    obtain ⟨c0, c1, c2, cl⟩ := HP3.out
    go_wp2_with fail
    have hX := Bk.new w3 25 #[.slice A n c, .slice X m k, .int .i64 sh]
    have hM34 := (Mor.refl w3).alloc (o := .cells #[.slice A n c, .slice X m k, .int .i64 sh] 25)
    obtain ⟨bX, hbX⟩ : ∃ g, g = w3.heap.size := ⟨_, rfl⟩
    rw [← hbX] at hX ⊢
    have hwX : w3.heap.size ≤ bX := by omega
    have hPX : bP < bX := by omega
    clear hbX c0 c1 c2 cl
    generalize w3.alloc (.cells #[.slice A n c, .slice X m k, .int .i64 sh] 25) = w4 at *
    have HBo := Lib.hid hbo
    have HAc := Lib.hid (fun es => (madeb_ac b es).1)
    have HSs := Lib.hid (fun es => (madeb_ac b es).2)
    clear hc hbo
    go_loopw [8, 32] (fun v i wr => ∃ (j cnt : Nat) (A' : Option Addr) (c' : Nat) (X' : Option Addr) (m' k' : Nat) (DA : Option Addr) (DC : Nat), j ≤ P ∧ cnt ≤ j ∧ i = .int .i64 j ∧ v = .slice DA cnt DC ∧ Hid (Bk wr bX 25 #[.slice A' n c', .slice X' m' k', .int .i64 sh] ∧ Hld wr A n c X m k b A' c' X' m' k' (madeb b (es.take j)) ∧ Dn w3 wr (.slice DA cnt DC) cnt (donel b (es.take j)) ∧ Mor w3 wr)) (fun _ i _ => P - (intOf i).toNat)
    case atStart => exact ⟨0, 0, A, c, X, m, k, none, 0, Nat.zero_le _, Nat.le_refl _, rfl, rfl, Lib.hid ⟨hX, by rw [List.take_zero]; exact Hld.start, by rw [List.take_zero]; exact Dn.start _ _, hM34⟩⟩
    case round =>
      clear hX hM34
      obtain ⟨j, cnt, A', c', X', m', k', DA, DC, hj, hcj, rfl, rfl, HR⟩ := hrel
      by_cases hlt : j < P
      · have hji : (j : Int) < (P : Int) := by omega
        have hj0 : (0 : Int) ≤ (j : Int) := by omega
        have hjl : j < es.length := by rw [HEl.out]; omega
        obtain ⟨hbX, hld, hdn, hm⟩ := HR.out
        obtain ⟨x, A2, n2, c2', hE, hxb, hks, d0, d1, d2, hlq⟩ := (HE.out _ HM3.out).at_ j hjl
        subst hE
        have hcm := fun {pl : Addr} (h : pl.block < w3.heap.size) => hm.below.cell (p := pl) h
        have d0 := (hcm (pl := x.add (j * 3)) (by rw [addb]; exact hxb)).trans d0
        have d1 := (hcm (pl := ⟨(x.add (j * 3)).block, (x.add (j * 3)).off + 1, none⟩) (by rw [addb]; exact hxb)).trans d1
        have d2 := (hcm (pl := ⟨(x.add (j * 3)).block, (x.add (j * 3)).off + 2, none⟩) (by rw [addb]; exact hxb)).trans d2
        have hxb : x.block < wr.heap.size := Nat.lt_of_lt_of_le hxb hm.below.size
        have HTk := Lib.hid (madeb_take b es j hjl)
        have HDk := Lib.hid (donel_take b es j hjl)
        have hbq := hld.bq HB.out (HM3.out.trans' hm)
        have hsj := HSs.out (es.take j)
        rw [HSh.out] at hsj
        have haj := hbq.ac.length
        have hx0 := hbX.cell 0
        have hx1 := hbX.cell 1
        have hx2 := hbX.cell 2
        have hxl := hbX.lt
        simp at hx0 hx1 hx2
        generalize madeb b (es.take j) = bj at *
        generalize donel b (es.take j) = dj at *
        generalize ne es j = y at *
        obtain ⟨ky, dy, ls⟩ := y
        dsimp only at d0 d1 hks hlq
        have HLq := Lib.hid hlq
        have HKs := Lib.hid hks
        have HPn := Lib.hid (fun w' (h : Mor wr w') (hc : postc bj ⟨ky, dy, ls⟩ ≠ 0) => show Calls Try.prog 22 #[bv A' n c' X' m' k' sh, .agg #[.string ky, .int .i64 dy, .slice A2 n2 c2']] w' (PostNo w' (postc bj ⟨ky, dy, ls⟩)) by
          have h3 := post_no A' n c' X' m' k' bj ⟨ky, dy, ls⟩ A2 n2 c2' w' (hbq.mor h) (hlq.mor (hm.trans' h)) hks hc
          rw [hsj] at h3
          exact h3)
        have HPy := Lib.hid (fun w' (h : Mor wr w') (hc : postc bj ⟨ky, dy, ls⟩ = 0) => show Calls Try.prog 22 #[bv A' n c' X' m' k' sh, .agg #[.string ky, .int .i64 dy, .slice A2 n2 c2']] w' (fun e w'' => ∃ A c X m k, e = .returned (.tuple #[bv A n c X m k sh, .int .i64 0]) ∧ OwnB w'' w'.heap.size (.slice A n c) (.slice X m k) n m (stepb bj ⟨ky, dy, ls⟩) ∧ Mor w' w'') by
          have h3 := post_yes A' n c' X' m' k' bj ⟨ky, dy, ls⟩ A2 n2 c2' w' (hbq.mor h) (hlq.mor (hm.trans' h)) hks hc
          rw [hsj] at h3
          refine h3.mono fun e w'' h => ?_
          obtain ⟨A9, c9, X9, m9, k9, he, ho, hm9⟩ := postYes_own h (n := n) (by rw [(post_ac _ _).1]; exact haj)
          rw [(post_ac _ _).2, hsj] at he
          exact ⟨A9, c9, X9, m9, k9, he, by rw [stepb_yes hc]; exact ho, hm9⟩)
        have HR2 := Lib.hid (fun w' (h : Mor wr w') => And.intro (hbX.mor h) (And.intro (hld.mor h) (And.intro (hdn.mor h) (hm.trans' h))))
        clear hbX hld hm hbq hlq haj hsj HR hdn hks hcm
        by_cases hc : postc bj ⟨ky, dy, ls⟩ = 0
        · have HP := Lib.hid (fun w' h => HPy.out w' h hc)
          rw [if_pos hc] at HDk
          clear hc HPn HPy
          go_wp2_with fail
          refine (HP.out _ (Mor.refl _).alloc).mono ?_
          rintro e w5 ⟨A9, c9, X9, m9, k9, rfl, ho, hm5⟩
          obtain ⟨qs, hrow, hql, hdl, hen⟩ := (HR2.out wr (Mor.refl _)).2.2.1
          have hgr : ∀ g, (Value.slice DA cnt DC).ownBlock = some g → g < wr.heap.size := fun g hg => (own_blk hrow hg).1
          have hen5 := (C3.new wr (.string ky) (.int .i64 dy) (.slice A2 n2 c2') 42).mor hm5
          have hmr5 := (Mor.refl wr).alloc.trans' hm5
          have hszB : (wr.alloc (.cells #[.string ky, .int .i64 dy, .slice A2 n2 c2'] 42)).heap.size = wr.heap.size + 1 := by simp
          rw [hszB] at ho
          obtain ⟨hbX5, -, -, hm35⟩ := HR2.out _ hmr5
          have hrow5 := own_mor hrow hmr5
          obtain ⟨bN, hbN⟩ : ∃ g, g = wr.heap.size := ⟨_, rfl⟩
          rw [← hbN] at hen5 ho hgr ⊢
          have hXN : bX < bN := by rw [hbN]; exact (HR2.out wr (Mor.refl _)).1.lt
          clear hbN hszB
          go_wp2_with fail
          have hbV6 := Bk.new w5 25 #[.slice A9 n c9, .slice X9 m9 k9, .int .i64 sh]
          have hen6 := hen5.mor ((Mor.refl w5).alloc (o := .cells #[.slice A9 n c9, .slice X9 m9 k9, .int .i64 sh] 25))
          have hbX6 := hbX5.alloc (.cells #[.slice A9 n c9, .slice X9 m9 k9, .int .i64 sh] 25)
          have hO6 := ho.mor ((Mor.refl w5).alloc (o := .cells #[.slice A9 n c9, .slice X9 m9 k9, .int .i64 sh] 25))
          have hrow6 := own_mor hrow5 ((Mor.refl w5).alloc (o := .cells #[.slice A9 n c9, .slice X9 m9 k9, .int .i64 sh] 25))
          have hm36 := hm35.alloc (o := .cells #[.slice A9 n c9, .slice X9 m9 k9, .int .i64 sh] 25)
          obtain ⟨bV, hbV⟩ : ∃ g, g = w5.heap.size := ⟨_, rfl⟩
          have hXV : bX < bV := by rw [hbV]; exact hbX5.lt
          have hNV : bN < bV := by rw [hbV]; exact hen5.2.2.2
          rw [← hbV] at hbV6 ⊢
          have hVX : bV ≠ bX := by omega
          clear hbV hmr5 hrow hrow5 hen5 hbX5 hm35 ho hm5 hx0 hx1 hx2 hxl d0 d1 d2 HR2 HP
          generalize w5.alloc (.cells #[.slice A9 n c9, .slice X9 m9 k9, .int .i64 sh] 25) = w6 at *
          have HO6 := Lib.hid hO6
          have HRow6 := Lib.hid hrow6
          have HbX6 := Lib.hid hbX6
          have HM36 := Lib.hid hm36
          have HEn := Lib.hid hen
          have HGr := Lib.hid hgr
          have HbV6 := Lib.hid hbV6
          have y0 := hbV6.cell 0
          have y1 := hbV6.cell 1
          have y2 := hbV6.cell 2
          have yl := hbV6.lt
          simp at y0 y1 y2
          obtain ⟨e0, e1, e2, el⟩ := hen6
          have x0 := hbX6.cell 0
          have x1 := hbX6.cell 1
          have x2 := hbX6.cell 2
          have f0 := hbX6.frozen 0
          have f1 := hbX6.frozen 1
          have f2 := hbX6.frozen 2
          have xl := hbX6.lt
          simp at x0 x1 x2
          clear hO6 hrow6 hbX6 hm36 hen hgr hbV6
          go_region_law (first
            | (refine step_append_own rfl (.tmp 45) (.tmp 47) 23 rfl _ 42 i0 (.agg #[.string { data := #[] }, .int .i64 0, .slice none 0 0]) 3 48 Try.underlying23 hi0 hz0 hz1 hz2 rfl (by decide) _ cnt (flat ec qs) (by simp [Act.eval]) (own_mor (HRow6.out) (by repeat (first | exact Mor.refl _ | apply Mor.alloc | apply Mor.drew))) ⟨w6.heap.size, 0, none⟩ 1 1 [.string ky, .int .i64 dy, .slice A2 n2 c2'] (by simp [Act.eval]) rfl (lit_at _ _ _ rfl (by simp [go_sem])) (by intro u hu; simp at hu; rcases hu with rfl | rfl | rfl <;> rfl) (by unfold maxLen; omega) (by omega) (by have := HM36.out.below.size; simp [go_sem]; omega) ?_; intro u7 w7 hown7 hgrow7; obtain ⟨A7, c7, rfl, _, _, _⟩ := own_shape hown7; have hbX7 := Bk.growT (Bk.mor (HbX6.out) (by repeat (first | exact Mor.refl _ | apply Mor.alloc | apply Mor.drew))) (own_mor (HRow6.out) (by repeat (first | exact Mor.refl _ | apply Mor.alloc | apply Mor.drew))) hgrow7 (by decide); have hbV7 := Bk.growT (Bk.mor (HbV6.out) (by repeat (first | exact Mor.refl _ | apply Mor.alloc | apply Mor.drew))) (own_mor (HRow6.out) (by repeat (first | exact Mor.refl _ | apply Mor.alloc | apply Mor.drew))) hgrow7 (by decide); have hm7 : Mor w3 w7 := own_step (own_mor (HRow6.out) (by repeat (first | exact Mor.refl _ | apply Mor.alloc | apply Mor.drew))) (Mor.trans' (HM36.out) (by repeat (first | exact Mor.refl _ | apply Mor.alloc | apply Mor.drew))) hgrow7; have hO7 := OwnB.growlt (OwnB.mor (HO6.out) (by repeat (first | exact Mor.refl _ | apply Mor.alloc | apply Mor.drew))) hgrow7 (fun g hg => by have := HGr.out g hg; omega); have HX7 := Lib.hid (And.intro hbX7 (And.intro hO7 (And.intro hown7 hm7))); have p0 := hbX7.cell 0; have p1 := hbX7.cell 1; have p2 := hbX7.cell 2; have g0 := hbX7.frozen 0; have g1 := hbX7.frozen 1; have g2 := hbX7.frozen 2; have pl := hbX7.lt; have v0 := hbV7.cell 0; have v1' := hbV7.cell 1; have v2 := hbV7.cell 2; have vl := hbV7.lt; simp at p0 p1 p2 v0 v1' v2; clear hbX7 hbV7 hm7 hO7 hown7 hgrow7)
            | (refine step_append_own rfl (.tmp 45) (.tmp 47) 23 rfl _ 42 i0 (.agg #[.string { data := #[] }, .int .i64 0, .slice none 0 0]) 3 48 Try.underlying23 hi0 hz0 hz1 hz2 rfl (by decide) _ cnt (flat ec qs) (by simp [Act.eval]) (own_mor (own_setT (own_setT (own_setT (u := .slice A9 n c9) (i := 0) (own_mor HRow6.out (Mor.refl w6).drew) HbX6.out.drew (by decide)) (u := .slice X9 m9 k9) (i := 1) (HbX6.out.drew.set_ 0 (.slice A9 n c9)) (by decide)) (u := .int .i64 sh) (i := 2) ((HbX6.out.drew.set_ 0 (.slice A9 n c9)).set_ 1 (.slice X9 m9 k9)) (by decide)) (by repeat (first | exact Mor.refl _ | apply Mor.alloc | apply Mor.drew))) ⟨w6.heap.size, 0, none⟩ 1 1 [.string ky, .int .i64 dy, .slice A2 n2 c2'] (by simp [Act.eval]) rfl (lit_at _ _ _ rfl (by simp [go_sem])) (by intro u hu; simp at hu; rcases hu with rfl | rfl | rfl <;> rfl) (by unfold maxLen; omega) (by omega) (by have := HM36.out.below.size; simp [go_sem]; omega) ?_; intro u7 w7 hown7 hgrow7; obtain ⟨A7, c7, rfl, _, _, _⟩ := own_shape hown7; have hbX7 := Bk.growT (Bk.mor (((HbX6.out.drew.set_ 0 (.slice A9 n c9)).set_ 1 (.slice X9 m9 k9)).set_ 2 (.int .i64 sh)) (by repeat (first | exact Mor.refl _ | apply Mor.alloc | apply Mor.drew))) (own_mor (own_setT (own_setT (own_setT (u := .slice A9 n c9) (i := 0) (own_mor HRow6.out (Mor.refl w6).drew) HbX6.out.drew (by decide)) (u := .slice X9 m9 k9) (i := 1) (HbX6.out.drew.set_ 0 (.slice A9 n c9)) (by decide)) (u := .int .i64 sh) (i := 2) ((HbX6.out.drew.set_ 0 (.slice A9 n c9)).set_ 1 (.slice X9 m9 k9)) (by decide)) (by repeat (first | exact Mor.refl _ | apply Mor.alloc | apply Mor.drew))) hgrow7 (by decide); have hbV7 := Bk.growT (Bk.mor (((HbV6.out.drew.set_other bX 0 (.slice A9 n c9) hVX).set_other bX 1 (.slice X9 m9 k9) hVX).set_other bX 2 (.int .i64 sh) hVX) (by repeat (first | exact Mor.refl _ | apply Mor.alloc | apply Mor.drew))) (own_mor (own_setT (own_setT (own_setT (u := .slice A9 n c9) (i := 0) (own_mor HRow6.out (Mor.refl w6).drew) HbX6.out.drew (by decide)) (u := .slice X9 m9 k9) (i := 1) (HbX6.out.drew.set_ 0 (.slice A9 n c9)) (by decide)) (u := .int .i64 sh) (i := 2) ((HbX6.out.drew.set_ 0 (.slice A9 n c9)).set_ 1 (.slice X9 m9 k9)) (by decide)) (by repeat (first | exact Mor.refl _ | apply Mor.alloc | apply Mor.drew))) hgrow7 (by decide); have hm7 : Mor w3 w7 := own_step (own_mor (own_setT (own_setT (own_setT (u := .slice A9 n c9) (i := 0) (own_mor HRow6.out (Mor.refl w6).drew) HbX6.out.drew (by decide)) (u := .slice X9 m9 k9) (i := 1) (HbX6.out.drew.set_ 0 (.slice A9 n c9)) (by decide)) (u := .int .i64 sh) (i := 2) ((HbX6.out.drew.set_ 0 (.slice A9 n c9)).set_ 1 (.slice X9 m9 k9)) (by decide)) (by repeat (first | exact Mor.refl _ | apply Mor.alloc | apply Mor.drew))) (Mor.trans' (((HM36.out.drew.setC (i := 0) (u := .slice A9 n c9) hwX).setC (i := 1) (u := .slice X9 m9 k9) hwX).setC (i := 2) (u := .int .i64 sh) hwX) (by repeat (first | exact Mor.refl _ | apply Mor.alloc | apply Mor.drew))) hgrow7; have hO7 := OwnB.growlt (OwnB.mor (own3 (a := .slice A9 n c9) (a' := .slice X9 m9 k9) (a'' := .int .i64 sh) (OwnB.mor HO6.out (Mor.refl w6).drew) HbX6.out.drew) (by repeat (first | exact Mor.refl _ | apply Mor.alloc | apply Mor.drew))) hgrow7 (fun g hg => by have := HGr.out g hg; omega); have HX7 := Lib.hid (And.intro hbX7 (And.intro hO7 (And.intro hown7 hm7))); have p0 := hbX7.cell 0; have p1 := hbX7.cell 1; have p2 := hbX7.cell 2; have g0 := hbX7.frozen 0; have g1 := hbX7.frozen 1; have g2 := hbX7.frozen 2; have pl := hbX7.lt; have v0 := hbV7.cell 0; have v1' := hbV7.cell 1; have v2 := hbV7.cell 2; have vl := hbV7.lt; simp at p0 p1 p2 v0 v1' v2; clear hbX7 hbV7 hm7 hO7 hown7 hgrow7))
          all_goals go_simp
          all_goals (go_wp2_with fail)
          all_goals go_roundw
          all_goals first
            | (simp [intOf]; omega)
            | exact ⟨j + 1, cnt + 1, A9, c9, X9, m9, k9, A7, c7, by omega, by omega, by go_num, rfl, Lib.hid ⟨by simpa using HX7.out.1, by rw [HTk.out]; exact Hld.own HX7.out.2.1, by rw [HDk.out]; exact Dn.snoc hql hdl HEn.out HX7.out.2.2.1 HKs.out HLq.out, HX7.out.2.2.2⟩⟩
            | exact ⟨j + 1, cnt + 1, A9, c9, X9, m9, k9, A7, c7, by omega, by omega, by go_num, rfl, Lib.hid ⟨by have := ((HX7.out.1.set_ 0 (.slice A9 n c9)).set_ 1 (.slice X9 m9 k9)).set_ 2 (.int .i64 sh); simpa using this, by rw [HTk.out]; exact (Hld.own HX7.out.2.1).store HX7.out.1, by rw [HDk.out]; exact (Dn.snoc hql hdl HEn.out HX7.out.2.2.1 HKs.out HLq.out).set3 HX7.out.1, ((HX7.out.2.2.2.setC hwX).setC hwX).setC hwX⟩⟩
        · have HP := Lib.hid (fun w' h => HPn.out w' h hc)
          have HSt := Lib.hid (stepb_no hc)
          have hr : (postc bj ⟨ky, dy, ls⟩ == 0) = false := by simpa using hc
          rw [if_neg hc, List.append_nil] at HDk
          generalize postc bj ⟨ky, dy, ls⟩ = r at *
          clear hc HPn HPy
          go_wp2_with fail
          refine (HP.out _ (Mor.refl _).alloc).mono ?_
          rintro e w5 ⟨rfl, hm5⟩
          have HR4 := Lib.hid (HR2.out _ ((Mor.refl _).alloc.trans' hm5))
          clear hm5 HR2
          go_wp2_with fail
          go_roundw
          case rel =>
            obtain ⟨h1, h2, h3, h4⟩ := HR4.out
            exact ⟨j + 1, cnt, A', c', X', m', k', DA, DC, by omega, by omega, by go_num, rfl, Lib.hid ⟨h1.alloc _, by rw [HTk.out, HSt.out]; exact h2.mor (Mor.refl _).alloc, by rw [HDk.out]; exact h3.mor (Mor.refl _).alloc, h4.alloc⟩⟩
          case measure => simp [intOf]; omega
      · obtain rfl : j = P := by omega
        obtain ⟨wL, rfl⟩ : ∃ wL, wL = wr := ⟨_, rfl⟩
        obtain ⟨hbX, hld, hdn, hm⟩ := HR.out
        have hinv := OInv.made HBo.out es j (by rw [HEl.out]; omega)
        generalize madeb b (es.take j) = xb at *
        generalize donel b (es.take j) = d at *
        have hdl : d.length = cnt := by obtain ⟨_, _, _, h, _⟩ := hdn; exact h
        obtain ⟨DX, DK, hDe, hDc, hD63, hDn, hDes⟩ := hdn.es hm
        have hcnt20 : cnt ≤ 20 := by omega
        have HInv := Lib.hid hinv
        have HDl := Lib.hid hdl
        have HDes := Lib.hid (fun w' (h : Mor wL w') => hDes.mor h)
        injection hDe with g1 _ g3
        subst g1 g3
        have HXr := Lib.hid (fun w' (h : Mor wL w') => And.intro (hbX.mor h) (hld.mor h))
        have HMr := Lib.hid hm
        have HPr := Lib.hid (fun w' (h : Mor wL w') => HP3.out.mor (hm.trans' h))
        obtain ⟨K, hK, hKn⟩ : ∃ K : Nat, (0 < cnt → wi v1 cnt = (K : Int)) ∧ K ≤ cnt := by
          by_cases h : 0 < cnt
          · have h0 := wi_lo v1 cnt (by omega)
            have h1 := wi_hi v1 cnt (by omega)
            exact ⟨(wi v1 cnt).toNat, fun _ => by omega, by omega⟩
          · exact ⟨0, fun h' => absurd h' h, Nat.zero_le _⟩
        have HW := Lib.hid (fun (h : 0 < cnt) w => show Calls Try.prog 23 #[.int .i64 v1, .int .i64 cnt] w fun e w' => e = .returned (.int .i64 (K : Int)) ∧ w = w' by
          have h2 := within_any v1 cnt w (by omega) (by omega)
          rw [hK h] at h2
          exact h2)
        clear HR hbX hld hdn hm hinv hDes hDn hK hlt hj
        obtain ⟨c0, c1, c2, cl⟩ := HPr.out _ (Mor.refl _)
        go_wp2_with fail
        have hY5 := Bk.new wL 25 #[.slice A n c, .slice X m k, .int .i64 sh]
        have hM5 := (Mor.refl wL).alloc (o := .cells #[.slice A n c, .slice X m k, .int .i64 sh] 25)
        obtain ⟨bY, hbY⟩ : ∃ g, g = wL.heap.size := ⟨_, rfl⟩
        rw [← hbY] at hY5 ⊢
        have hwY : wL.heap.size ≤ bY := by omega
        clear hbY c0 c1 c2 cl
        generalize wL.alloc (.cells #[.slice A n c, .slice X m k, .int .i64 sh] 25) = w5 at *
        go_loopw [53] (fun v ws => ∃ (i : Nat) (Ay : Option Addr) (cy : Nat) (Xy : Option Addr) (my ky : Nat), i ≤ cnt ∧ v = .int .i64 i ∧ Hid (Bk ws bY 25 #[.slice Ay n cy, .slice Xy my ky, .int .i64 sh] ∧ Hld ws A n c X m k b Ay cy Xy my ky (yb b d K i) ∧ Mor wL ws)) (fun v _ => cnt - (intOf v).toNat)
        case atStart => exact ⟨0, A, c, X, m, k, Nat.zero_le _, rfl, Lib.hid ⟨hY5, Hld.start, hM5⟩⟩
        case round =>
          clear hY5 hM5
          obtain ⟨i, Ay, cy, Xy, my, ky, hi, rfl, HS⟩ := hrel
          by_cases hlt : i < cnt
          · obtain ⟨hbY, hld, hms⟩ := HS.out
            have hii : (i : Int) < (cnt : Int) := by omega
            have hii0 : (0 : Int) ≤ (i : Int) := by omega
            have hc0 : 0 < cnt := by omega
            obtain ⟨r, hr⟩ : ∃ r : Nat, r = i + K := ⟨_, rfl⟩
            have hrI : (i : Int) + (K : Int) = (r : Int) := by omega
            have hr40 : r ≤ 40 := by omega
            obtain ⟨t, ht⟩ : ∃ t : Nat, t = r % cnt := ⟨_, rfl⟩
            have htI : Int.tmod (r : Int) (cnt : Int) = (t : Int) := by rw [ht]; exact (Int.ofNat_tmod r cnt).symm
            have htN : r % cnt = t := ht.symm
            have htE : ((r : Int) % (cnt : Int)) = (t : Int) := by rw [ht]; exact (Int.natCast_emod r cnt).symm
            have hcne : ¬ (cnt : Int) = 0 := by omega
            have hcneN : ¬ cnt = 0 := by omega
            have hcb : ((cnt : Int) == 0) = false := beq_eq_false_iff_ne.2 hcne
            have hwrt : IntKind.i64.wrap (t : Int) = (t : Int) := IntWalk.i64_in _ (by have : t < cnt := (by rw [ht]; exact Nat.mod_lt _ hc0); omega)
            have hwrr : IntKind.i64.wrap (r : Int) = (r : Int) := IntWalk.i64_in _ (by omega)
            have htc : t < cnt := by rw [ht]; exact Nat.mod_lt _ hc0
            have htci : (t : Int) < (cnt : Int) := by omega
            have ht0 : (0 : Int) ≤ (t : Int) := by omega
            obtain ⟨hway, -, hpc⟩ := yb_way HBo.out HInv.out K (by rw [HDl.out]; exact hc0) i
            have hyn : yb b d K (i + 1) = postb (yb b d K i) (ne d t) := by
              show postb (yb b d K i) (ne d ((i + K) % d.length)) = _
              rw [HDl.out, ← hr, ← ht]
            rw [HDl.out, ← hr, ← ht] at hpc
            obtain ⟨z, A2, n2, c2', hD, hzb, hks, d0, d1, d2, hlq⟩ := (HDes.out _ hms).at_ t (by rw [HDl.out]; exact htc)
            subst hD
            have hbq := hld.bq HB.out (HM3.out.trans' (HMr.out.trans' hms))
            have hWt := HW.out hc0
            have HWt := Lib.hid hWt
            generalize ne d t = en at *
            obtain ⟨ke, de, le⟩ := en
            dsimp only at d0 d1 hks hlq
            have HPo := Lib.hid (fun w' (h : Mor wr w') => show Calls Try.prog 22 #[bv Ay n cy Xy my ky sh, .agg #[.string ke, .int .i64 de, .slice A2 n2 c2']] w' (fun e w'' => ∃ A c X m k, e = .returned (.tuple #[bv A n c X m k sh, .int .i64 0]) ∧ OwnB w'' w'.heap.size (.slice A n c) (.slice X m k) n m (yb b d K (i + 1)) ∧ Mor w' w'') by
              have h3 := post_yes Ay n cy Xy my ky (yb b d K i) ⟨ke, de, le⟩ A2 n2 c2' w' (hbq.mor h) (hlq.mor h) hks hpc
              rw [show (yb b d K i).shut = sh by rw [hway.sh, HSh.out]] at h3
              refine h3.mono fun e w'' h => ?_
              obtain ⟨A9, c9, X9, m9, k9, he, ho, hm9⟩ := postYes_own h (n := n) (by rw [(post_ac _ _).1]; exact hbq.ac.length)
              rw [(post_ac _ _).2, show (yb b d K i).shut = sh by rw [hway.sh, HSh.out]] at he
              rw [← hyn] at ho
              exact ⟨A9, c9, X9, m9, k9, he, ho, hm9⟩)
            have hbY0 := hbY.cell 0
            have hbY1 := hbY.cell 1
            have hbY2 := hbY.cell 2
            have hbYl := hbY.lt
            simp at hbY0 hbY1 hbY2
            have HKp := Lib.hid (fun w' (h : Mor wr w') => show w'.cell? ⟨bY, 0, none⟩ = some (.slice Ay n cy) ∧ w'.cell? ⟨bY, 1, none⟩ = some (.slice Xy my ky) ∧ w'.cell? ⟨bY, 2, none⟩ = some (.int .i64 sh) ∧ w'.cell? (z.add (t * 3)) = some (.string ke) ∧ w'.cell? ⟨(z.add (t * 3)).block, (z.add (t * 3)).off + 1, none⟩ = some (.int .i64 de) ∧ w'.cell? ⟨(z.add (t * 3)).block, (z.add (t * 3)).off + 2, none⟩ = some (.slice A2 n2 c2') from
              ⟨(h.below.cell (p := ⟨bY, 0, none⟩) hbYl).trans hbY0, (h.below.cell (p := ⟨bY, 1, none⟩) hbYl).trans hbY1, (h.below.cell (p := ⟨bY, 2, none⟩) hbYl).trans hbY2,
               (h.below.cell (p := z.add (t * 3)) (by rw [addb]; exact hzb)).trans d0, (h.below.cell (p := ⟨(z.add (t * 3)).block, (z.add (t * 3)).off + 1, none⟩) (by rw [addb]; exact hzb)).trans d1, (h.below.cell (p := ⟨(z.add (t * 3)).block, (z.add (t * 3)).off + 2, none⟩) (by rw [addb]; exact hzb)).trans d2⟩)
            have HbY := Lib.hid (fun w' (h : Mor wr w') => hbY.mor h)
            have HMs := Lib.hid hms
            have HN1 := Lib.hid (show (yb b d K (i + 1)).ac.length = n by rw [hyn, (post_ac _ _).1]; exact hbq.ac.length)
            clear hbY hld hms hway hpc hyn hbq hlq hWt hks ht HS
            clear hr
            go_wp2_with fail
            go_cut [15, 16] (fun s15 s16 wx => Hid (PutY wr wx sh (yb b d K (i + 1)) s16 s15))
            case first =>
              go_region_held3 (fun w' => w'.cell? ⟨bY, 0, none⟩ = some (.slice Ay n cy) ∧ w'.cell? ⟨bY, 1, none⟩ = some (.slice Xy my ky) ∧ w'.cell? ⟨bY, 2, none⟩ = some (.int .i64 sh) ∧ w'.cell? (z.add (t * 3)) = some (.string ke) ∧ w'.cell? ⟨(z.add (t * 3)).block, (z.add (t * 3)).off + 1, none⟩ = some (.int .i64 de) ∧ w'.cell? ⟨(z.add (t * 3)).block, (z.add (t * 3)).off + 2, none⟩ = some (.slice A2 n2 c2')) (first | exact HKp.out _ (by repeat (first | exact Mor.refl _ | apply Mor.alloc | apply Mor.more | apply Mor.drewN | apply Mor.drew))) (first | (go_at_call 23; (with_reducible refine (HWt.out _).mono ?_); rintro e w1 ⟨rfl, rfl⟩) | (go_at_call 22; (with_reducible refine (HPo.out _ (by repeat (first | exact Mor.refl _ | apply Mor.alloc | apply Mor.more | apply Mor.drewN | apply Mor.drew))).mono ?_); intro e w9 h9; obtain ⟨A6, c6, X6, m6, k6, rfl, hB, bs, dr, rfl⟩ := h9))
              all_goals (go_wp2_with fail)
              all_goals go_meet
              all_goals exact Lib.hid (by first | exact putZ_last (w := wr) hB | exact putZ_first (w := wr) hB)
            case rest =>
              obtain ⟨gZ, A6, n6, c6, X6, m6, k6, rfl, rfl, hZ, ⟨Bz, hO⟩, hMz⟩ := hcut.out
              have hn6 : n6 = n := by rw [← (own_bq hO).ac.length]; exact HN1.out
              subst hn6
              have hbYc := HbY.out _ hMz
              have HbYc := Lib.hid hbYc
              have HOz := Lib.hid hO
              have HMz := Lib.hid (HMs.out.trans' hMz)
              have y0 := hbYc.cell 0
              have y1 := hbYc.cell 1
              have y2 := hbYc.cell 2
              have f0 := hbYc.frozen 0
              have f1 := hbYc.frozen 1
              have f2 := hbYc.frozen 2
              have yl := hbYc.lt
              have z0 := hZ.cell 0
              have z1 := hZ.cell 1
              have z2 := hZ.cell 2
              have zl := hZ.lt
              simp at y0 y1 y2 z0 z1 z2
              clear hbYc hO hMz hZ hbY0 hbY1 hbY2 hbYl d0 d1 d2 hzb HKp HPo HWt
              go_wp2_with fail
              go_roundw
              case rel => exact ⟨i + 1, A6, c6, X6, m6, k6, by omega, by go_num, Lib.hid ⟨by have := ((HbYc.out.set_ 0 (.slice A6 n6 c6)).set_ 1 (.slice X6 m6 k6)).set_ 2 (.int .i64 sh); simpa using this, (Hld.own HOz.out).store HbYc.out, ((HMz.out.setC hwY).setC hwY).setC hwY⟩⟩
              case measure => simp [intOf]; omega
          · obtain rfl : i = cnt := by omega
            have hall := yb_all HBo.out HInv.out K
            rw [HDl.out] at hall
            rw [hall] at HS
            obtain ⟨w7, rfl⟩ : ∃ w7, w7 = wr := ⟨_, rfl⟩
            clear hall hlt hi
            go_wp2_with fail
            go_loopw [79] (fun v ws => ∃ (t : Nat) (Ay : Option Addr) (cy : Nat) (Xy : Option Addr) (my ky : Nat), t ≤ i ∧ v = .int .i64 t ∧ Hid (Bk ws bY 25 #[.slice Ay n cy, .slice Xy my ky, .int .i64 sh] ∧ Hld ws A n c X m k b Ay cy Xy my ky xb ∧ Mor wL ws)) (fun v _ => i - (intOf v).toNat)
            case atStart => exact ⟨0, Ay, cy, Xy, my, ky, Nat.zero_le _, rfl, HS⟩
            case round =>
              clear HS Ay cy Xy my ky
              obtain ⟨t, Ay, cy, Xy, my, ky, ht, rfl, HS⟩ := hrel
              obtain ⟨hbY, hld, hms⟩ := HS.out
              by_cases hlt : t < i
              · have hti : (t : Int) < (i : Int) := by omega
                have ht0 : (0 : Int) ≤ (t : Int) := by omega
                obtain ⟨u, hu⟩ : ∃ u : Nat, u = i - 1 - t := ⟨_, rfl⟩
                have hui : u < i := by omega
                have huI : (i : Int) - 1 - (t : Int) = (u : Int) := by omega
                have huL : (u : Int) < (i : Int) := by omega
                have hu0 : (0 : Int) ≤ (u : Int) := by omega
                have hw1 : IntKind.i64.wrap ((i : Int) - 1) = (i : Int) - 1 := IntWalk.i64_in _ (by omega)
                have hw2 : IntKind.i64.wrap (u : Int) = (u : Int) := IntWalk.i64_in _ (by omega)
                have hud : u < d.length := by rw [HDl.out]; exact hui
                obtain ⟨hpc, hpb⟩ := post_done HInv.out (e := ne d u) (by rw [ne_eq _ _ hud]; exact List.getElem_mem hud)
                obtain ⟨z, A2, n2, c2', hD, hzb, hks, d0, d1, d2, hlq⟩ := (HDes.out _ hms).at_ u hud
                subst hD
                have hbq := hld.bq HB.out (HM3.out.trans' (HMr.out.trans' hms))
                have hxs := HInv.out.sh
                generalize ne d u = en at *
                obtain ⟨ke, de, le⟩ := en
                dsimp only at d0 d1 hks hlq
                have HPo := Lib.hid (fun w' (h : Mor wr w') => show Calls Try.prog 22 #[bv Ay n cy Xy my ky sh, .agg #[.string ke, .int .i64 de, .slice A2 n2 c2']] w' (fun e w'' => ∃ A c X m k, e = .returned (.tuple #[bv A n c X m k sh, .int .i64 0]) ∧ OwnB w'' w'.heap.size (.slice A n c) (.slice X m k) n m xb ∧ Mor w' w'') by
                  have h3 := post_yes Ay n cy Xy my ky xb ⟨ke, de, le⟩ A2 n2 c2' w' (hbq.mor h) (hlq.mor h) hks hpc
                  rw [hpb] at h3
                  rw [show xb.shut = sh by rw [hxs, HSh.out]] at h3
                  refine h3.mono fun e w'' h => ?_
                  obtain ⟨A9, c9, X9, m9, k9, he, ho, hm9⟩ := postYes_own h (n := n) hbq.ac.length
                  rw [show xb.shut = sh by rw [hxs, HSh.out]] at he
                  exact ⟨A9, c9, X9, m9, k9, he, ho, hm9⟩)
                have hbY0 := hbY.cell 0
                have hbY1 := hbY.cell 1
                have hbY2 := hbY.cell 2
                have hbYl := hbY.lt
                simp at hbY0 hbY1 hbY2
                have HKp := Lib.hid (fun w' (h : Mor wr w') => show w'.cell? ⟨bY, 0, none⟩ = some (.slice Ay n cy) ∧ w'.cell? ⟨bY, 1, none⟩ = some (.slice Xy my ky) ∧ w'.cell? ⟨bY, 2, none⟩ = some (.int .i64 sh) ∧ w'.cell? (z.add (u * 3)) = some (.string ke) ∧ w'.cell? ⟨(z.add (u * 3)).block, (z.add (u * 3)).off + 1, none⟩ = some (.int .i64 de) ∧ w'.cell? ⟨(z.add (u * 3)).block, (z.add (u * 3)).off + 2, none⟩ = some (.slice A2 n2 c2') from
                  ⟨(h.below.cell (p := ⟨bY, 0, none⟩) hbYl).trans hbY0, (h.below.cell (p := ⟨bY, 1, none⟩) hbYl).trans hbY1, (h.below.cell (p := ⟨bY, 2, none⟩) hbYl).trans hbY2,
                   (h.below.cell (p := z.add (u * 3)) (by rw [addb]; exact hzb)).trans d0, (h.below.cell (p := ⟨(z.add (u * 3)).block, (z.add (u * 3)).off + 1, none⟩) (by rw [addb]; exact hzb)).trans d1, (h.below.cell (p := ⟨(z.add (u * 3)).block, (z.add (u * 3)).off + 2, none⟩) (by rw [addb]; exact hzb)).trans d2⟩)
                have HbY := Lib.hid (fun w' (h : Mor wr w') => hbY.mor h)
                have HMs := Lib.hid hms
                have HN1 := Lib.hid (show xb.ac.length = n from hbq.ac.length)
                clear hbY hld hms hpc hpb hbq hlq hks HS hxs hu
                go_wp2_with fail
                go_cut [18, 19] (fun s18 s19 wx => Hid (PutY wr wx sh xb s19 s18))
                case first =>
                  go_region_held3 (fun w' => w'.cell? ⟨bY, 0, none⟩ = some (.slice Ay n cy) ∧ w'.cell? ⟨bY, 1, none⟩ = some (.slice Xy my ky) ∧ w'.cell? ⟨bY, 2, none⟩ = some (.int .i64 sh) ∧ w'.cell? (z.add (u * 3)) = some (.string ke) ∧ w'.cell? ⟨(z.add (u * 3)).block, (z.add (u * 3)).off + 1, none⟩ = some (.int .i64 de) ∧ w'.cell? ⟨(z.add (u * 3)).block, (z.add (u * 3)).off + 2, none⟩ = some (.slice A2 n2 c2')) (first | exact HKp.out _ (by repeat (first | exact Mor.refl _ | apply Mor.alloc | apply Mor.more | apply Mor.drewN | apply Mor.drew))) (first | (go_at_call 22; (with_reducible refine (HPo.out _ (by repeat (first | exact Mor.refl _ | apply Mor.alloc | apply Mor.more | apply Mor.drewN | apply Mor.drew))).mono ?_); intro e w9 h9; obtain ⟨A6, c6, X6, m6, k6, rfl, hB, bs, dr, rfl⟩ := h9))
                  all_goals (go_wp2_with fail)
                  all_goals go_meet
                  all_goals exact Lib.hid (by first | exact putZ_last (w := wr) hB | exact putZ_first (w := wr) hB)
                case rest =>
                  obtain ⟨gZ, A6, n6, c6, X6, m6, k6, rfl, rfl, hZ, ⟨Bz, hO⟩, hMz⟩ := hcut.out
                  have hn6 : n6 = n := by rw [← (own_bq hO).ac.length]; exact HN1.out
                  subst hn6
                  have hbYc := HbY.out _ hMz
                  have HbYc := Lib.hid hbYc
                  have HOz := Lib.hid hO
                  have HMz := Lib.hid (HMs.out.trans' hMz)
                  have y0 := hbYc.cell 0
                  have y1 := hbYc.cell 1
                  have y2 := hbYc.cell 2
                  have f0 := hbYc.frozen 0
                  have f1 := hbYc.frozen 1
                  have f2 := hbYc.frozen 2
                  have yl := hbYc.lt
                  have z0 := hZ.cell 0
                  have z1 := hZ.cell 1
                  have z2 := hZ.cell 2
                  have zl := hZ.lt
                  simp at y0 y1 y2 z0 z1 z2
                  clear hbYc hO hMz hZ hbY0 hbY1 hbY2 hbYl d0 d1 d2 hzb HKp HPo
                  go_wp2_with fail
                  go_roundw
                  case rel => exact ⟨t + 1, A6, c6, X6, m6, k6, by omega, by go_num, Lib.hid ⟨by have := ((HbYc.out.set_ 0 (.slice A6 n6 c6)).set_ 1 (.slice X6 m6 k6)).set_ 2 (.int .i64 sh); simpa using this, (Hld.own HOz.out).store HbYc.out, ((HMz.out.setC hwY).setC hwY).setC hwY⟩⟩
                  case measure => simp [intOf]; omega
              · obtain rfl : t = i := by omega
                obtain ⟨hbX, hldx⟩ := HXr.out _ hms
                have hqx := hldx.bq HB.out (HM3.out.trans' (HMr.out.trans' hms))
                have hqy := hld.bq HB.out (HM3.out.trans' (HMr.out.trans' hms))
                have hmm : my = m' := by rw [← hqy.length, ← hqx.length]
                subst hmm
                have HSB := Lib.hid (fun w' (h : Mor wr w') => samebook_yes A' Ay n c' cy X' Xy my k' ky sh xb w' (hqx.mor h) (hqy.mor h))
                have HMs := Lib.hid hms
                have x0 := hbX.cell 0
                have x1 := hbX.cell 1
                have x2 := hbX.cell 2
                have xl := hbX.lt
                have y0 := hbY.cell 0
                have y1 := hbY.cell 1
                have y2 := hbY.cell 2
                have yl := hbY.lt
                simp at x0 x1 x2 y0 y1 y2
                clear hbX hbY hld hldx hms hqx hqy HS
                go_wp2_with fail
                refine (HSB.out _ (Mor.refl _)).mono ?_
                rintro e w9 ⟨rfl, hm9⟩
                go_wp2_with fail
                go_ret
                exact ⟨by simp, ((HM3.out.trans' (HMr.out.trans' HMs.out)).trans' hm9).below⟩
  · have hcb : (bookc b != 0) = true := by simpa using hc
    generalize bookc b = r at *
    go_wp2_with fail
    go_ret
    exact ⟨by simp, HM3.out.below⟩

end Go.Proofs.Ytpgefclnplmlkaa.bookOrder
