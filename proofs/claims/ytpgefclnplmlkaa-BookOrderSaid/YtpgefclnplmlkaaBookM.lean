/- The walks of book.Of and book.Balance. -/
import Derived.Test.YtpgefclnplmlkaaBookD
import Derived.Test.YtpgefclnplmlkaaPlainBl
import Derived.Deep.LoopGhost
namespace Go.Proofs.Ytpgefclnplmlkaa
open Go.ChangeShapes Go.WideShapes Go.ChangeAt Go.RowKit Go.PlainAid
set_option linter.unusedVariables false

theorem ln_take (s : ByteArray) (ls : List Ln) (k : Nat) (h : k < ls.length) : lnOf (ls.take (k + 1)) s = lnOf (ls.take k) s + if cd ls k = s then am ls k else 0 := by
  unfold lnOf
  rw [sm_take _ _ _ h, (cd_at ls k h).1, (cd_at ls k h).2]
theorem of_take (s : ByteArray) (f t : Int) (es : List En) (k : Nat) (h : k < es.length) : ofS (es.take (k + 1)) s f t = ofS (es.take k) s f t + enOf s f t (ne es k) := by
  unfold ofS
  rw [sm_take _ _ _ h, ne_eq _ _ h]

set_option maxRecDepth 100000 in
set_option maxHeartbeats 3200000 in
theorem of_any (A : Option Addr) (n c : Nat) (X : Option Addr) (m k : Nat) (sh : Int) (es : List En) (s : ByteArray) (f t : Int) (w : World) (hr : Es w X es) (hn : es.length = m) (hl : m ≤ 60) (he : ∀ x ∈ es, enc x = 0) :
    Calls Try.prog 43 #[bv A n c X m k sh, .string s, .int .i64 f, .int .i64 t] w fun e w' => e = .returned (.int .i64 (ofS es s f t)) ∧ Mor w w' := by
  have HR := Lib.hid hr
  have HN := Lib.hid hn
  have HE := Lib.hid (fun j (hj : j < m) => he (ne es j) (by rw [ne_eq _ _ (by omega)]; exact List.getElem_mem _))
  have HBd := Lib.hid (fun j (hj : j ≤ m) => ofS_bd (es := es.take j) (fun x hx => he x (List.mem_of_mem_take hx)) (by rw [List.length_take]; omega) s f t)
  have HSt := Lib.hid (fun j (hj : j < m) => of_take s f t es j (by omega))
  clear hr hn he
  go_enter Try.func43, Try.ntmps43
  go_wp2
  go_loopw [9, 17] (fun v i wr => ∃ j : Nat, j ≤ m ∧ i = .int .i64 j ∧ v = .int .i64 (ofS (es.take j) s f t) ∧ Hid (Mor w wr)) (fun _ i _ => m - (intOf i).toNat)
  case atStart => exact ⟨0, Nat.zero_le _, rfl, rfl, Lib.hid (Mor.refl _).alloc⟩
  case round =>
    obtain ⟨j, hj, rfl, rfl, HM⟩ := hrel
    by_cases hlt : j < m
    · have hji : (j : Int) < (m : Int) := by omega
      have hj0 : (0 : Int) ≤ (j : Int) := by omega
      obtain ⟨x, B, p, q, hX, hxb, -, d0, d1, d2, hq⟩ := (HR.out.mor HM.out).at_ j (by rw [HN.out]; exact hlt)
      subst hX
      have HQ := Lib.hid hq
      have HS1 := Lib.hid (HSt.out j hlt)
      have HEn := Lib.hid (HE.out j hlt)
      have HBj := Lib.hid (HBd.out j (by omega))
      have HEo := Lib.hid (show enOf s f t (ne es j) = if (ne es j).day < f ∨ t < (ne es j).day then 0 else lnOf (ne es j).ls s from rfl)
      obtain ⟨p12, _, _, hok, _⟩ := en_lines HEn.out
      rw [hq.length] at p12
      have HLb := Lib.hid (fun i (hi : i ≤ p) => lnOf_bd (ls := (ne es j).ls.take i) (fun y hy => hok y (List.mem_of_mem_take hy)) s)
      have HLs := Lib.hid (fun i (hi : i < p) => ln_take s (ne es j).ls i (by rw [hq.length]; exact hi))
      have HLa := Lib.hid (fun i (hi : i < p) => show -1000000000000 ≤ am (ne es j).ls i ∧ am (ne es j).ls i ≤ 1000000000000 from by
        have h1 : i < (ne es j).ls.length := by rw [hq.length]; exact hi
        rw [(cd_at _ i h1).2]
        have := hok _ (List.getElem_mem h1)
        unfold okL at this; omega)
      have HAll := Lib.hid (show (ne es j).ls.take p = (ne es j).ls from List.take_of_length_le (by rw [hq.length]; exact Nat.le_refl _))
      have HLl := Lib.hid (fun i (hi : i ≤ p) => show ((ne es j).ls.take i).length = i by rw [List.length_take, hq.length]; omega)
      clear hq hok
      generalize ofS (es.take j) s f t = S at *
      generalize (ne es j).key = ky at *
      generalize (ne es j).ls = ls at *
      generalize (ne es j).day = d at *
      obtain ⟨sb1, sb2⟩ := HBj.out
      by_cases h1 : d < f
      · have HV := Lib.hid (show ofS (es.take (j + 1)) s f t = S by rw [HS1.out, HEo.out, if_pos (.inl h1), Int.add_zero])
        go_wp2_with fail
        go_roundw
        case rel => exact ⟨j + 1, by omega, by go_num, by rw [HV.out], Lib.hid HM.out.alloc⟩
        case measure => simp [intOf]; omega
      · by_cases h2 : t < d
        · have HV := Lib.hid (show ofS (es.take (j + 1)) s f t = S by rw [HS1.out, HEo.out, if_pos (.inr h2), Int.add_zero])
          go_wp2_with fail
          go_roundw
          case rel => exact ⟨j + 1, by omega, by go_num, by rw [HV.out], Lib.hid HM.out.alloc⟩
          case measure => simp [intOf]; omega
        · have HV := Lib.hid (show ofS (es.take (j + 1)) s f t = S + lnOf ls s by rw [HS1.out, HEo.out, if_neg (by omega)])
          clear HEo HS1 HSt HE HEn
          go_wp2_with fail
          go_loopw [9, 34] (fun v i wr2 => ∃ y : Nat, y ≤ p ∧ i = .int .i64 y ∧ v = .int .i64 (S + lnOf (ls.take y) s) ∧ Hid (Mor wr wr2)) (fun _ i _ => p - (intOf i).toNat)
          case atStart => exact ⟨0, Nat.zero_le _, rfl, by show _ = Value.int .i64 (S + 0); rw [Int.add_zero], Lib.hid (Mor.refl _).alloc⟩
          case round =>
            obtain ⟨y, hy, rfl, rfl, HM2⟩ := hrel
            obtain ⟨lb1, lb2⟩ := HLb.out y hy
            rw [HLl.out y hy] at lb1 lb2
            by_cases hyp : y < p
            · have hyi : (y : Int) < (p : Int) := by omega
              have hy0 : (0 : Int) ≤ (y : Int) := by omega
              obtain ⟨x2, hA, hx2b, g1, g2⟩ := (HQ.out.si.mor HM2.out).at_ y (by rw [HQ.out.length]; exact hyp)
              subst hA
              obtain ⟨la1, la2⟩ := HLa.out y hyp
              have HL1 := Lib.hid (HLs.out y hyp)
              generalize lnOf (ls.take y) s = L at *
              generalize cd ls y = cy at *
              generalize am ls y = ay at *
              by_cases hc : cy = s
              · have HW := Lib.hid (show S + lnOf (ls.take (y + 1)) s = S + L + ay by rw [HL1.out, if_pos hc]; omega)
                subst hc
                go_wp2_with fail
                go_roundw
                case rel => exact ⟨y + 1, by omega, by go_num, by rw [HW.out], Lib.hid HM2.out.alloc⟩
                case measure => simp [intOf]; omega
              · have HW := Lib.hid (show S + lnOf (ls.take (y + 1)) s = S + L by rw [HL1.out, if_neg hc]; omega)
                have hcb : (cy.toList == s.toList) = false := by rw [str_eq]; exact decide_eq_false hc
                go_wp2_with fail
                go_roundw
                case rel => exact ⟨y + 1, by omega, by go_num, by rw [HW.out], Lib.hid HM2.out.alloc⟩
                case measure => simp [intOf]; omega
            · obtain rfl : y = p := by omega
              rw [HAll.out]
              go_wp2_with fail
              go_roundw
              case rel => exact ⟨j + 1, by omega, by go_num, by rw [HV.out], Lib.hid (HM.out.trans' HM2.out)⟩
              case measure => simp [intOf]; omega
    · obtain rfl : j = m := by omega
      have hall : es.take j = es := List.take_of_length_le (by rw [HN.out]; exact Nat.le_refl _)
      rw [hall]
      go_wp2
      go_ret
      exact ⟨rfl, HM.out⟩

set_option maxHeartbeats 1600000 in
theorem bal_any (A : Option Addr) (n c : Nat) (X : Option Addr) (m k : Nat) (b : Bok) (s : ByteArray) (day : Int) (w : World) (h : Bq w A n c X m k b) :
    Calls Try.prog 20 #[bv A n c X m k b.shut, .string s, .int .i64 day] w fun e w' => e = .returned (.tuple #[.int .i64 (balv b s day), .int .i64 (balc b s day)]) ∧ Mor w w' := by
  have HC := Lib.hid (fun w' (hm : Mor w w') => bcheck_any A n c X m k b w' (h.mor hm))
  have HBc := Lib.hid (show balc b s day = if bookc b ≠ 0 then bookc b else if hasB b.ac s = false then 4 else if day < 0 ∨ 292193 < day then 1 else 0 from rfl)
  have HBv := Lib.hid (show balv b s day = if balc b s day ≠ 0 then 0 else ofS b.en s 0 day from rfl)
  generalize balv b s day = v at *
  generalize balc b s day = c' at *
  by_cases h1 : bookc b = 0
  rotate_left
  · rw [if_pos h1] at HBc
    rw [HBc.out, if_pos h1] at HBv
    generalize bookc b = r at *
    have hr : (r != 0) = true := by simpa using h1
    clear h h1
    generalize b.shut = sh at *
    go_enter Try.func20, Try.ntmps20
    go_wp2_with fail
    refine (HC.out _ (Mor.refl _).alloc).mono ?_
    rintro e w1 ⟨rfl, hm⟩
    have HM := Lib.hid ((Mor.refl w).alloc.trans' hm)
    clear hm
    go_wp2_with fail
    go_returns
    exact ⟨by rw [HBv.out, HBc.out] <;> rfl, HM.out⟩
  have hbo := (bookc_iff b).1 h1
  have hn24 : n ≤ 24 := by rw [← h.ac.length]; exact (acc_ok hbo.ac).1
  rw [if_neg (by simp [h1])] at HBc
  rw [h1] at HC
  have HF := Lib.hid (fun w' (hm : Mor w w') => find_ac A n c b.ac s w' (h.ac.si.mor hm) h.ac.length (by omega))
  have HO := Lib.hid (fun w' (hm : Mor w w') => of_any A n c X m k b.shut b.en s 0 day w' (h.es.mor hm) h.length (by rw [← h.length]; exact hbo.len) hbo.enc)
  have HNg := Lib.hid (findA_neg b.ac s)
  have HD := Lib.hid (fun w => cis_any day w)
  generalize ofS b.en s 0 day = ov at *
  generalize findA b.ac s = fa at *
  clear h h1 hbo
  generalize b.shut = sh at *
  by_cases h2 : fa < 0
  · rw [if_pos (HNg.out.1 h2)] at HBc
    rw [HBc.out, if_pos (by decide)] at HBv
    go_enter Try.func20, Try.ntmps20
    go_wp2_with fail
    refine (HC.out _ (Mor.refl _).alloc).mono ?_
    rintro e w1 ⟨rfl, hm⟩
    have hb := (Bk.new w 25 #[.slice A n c, .slice X m k, .int .i64 sh]).mor hm
    have c0 := hb.cell 0
    have cl := hb.lt
    simp at c0
    have HM := Lib.hid ((Mor.refl w).alloc.trans' hm)
    clear hm hb
    go_wp2_with fail
    refine (HF.out _ HM.out).mono ?_
    rintro e w2 ⟨rfl, hm⟩
    have HM2 := Lib.hid (HM.out.trans' hm)
    clear hm
    go_wp2_with fail
    go_returns
    exact ⟨by rw [HBv.out, HBc.out] <;> rfl, HM2.out⟩
  · have hhas : ¬ hasB b.ac s = false := fun e => h2 (HNg.out.2 e)
    rw [if_neg hhas] at HBc
    by_cases h3 : day < 0 ∨ 292193 < day
    · rw [if_pos h3] at HBc
      rw [HBc.out, if_pos (by decide)] at HBv
      rw [show (decide (0 ≤ day) && decide (day ≤ 292193)) = false by simp; omega] at HD
      go_enter Try.func20, Try.ntmps20
      go_wp2_with fail
      refine (HC.out _ (Mor.refl _).alloc).mono ?_
      rintro e w1 ⟨rfl, hm⟩
      have hb := (Bk.new w 25 #[.slice A n c, .slice X m k, .int .i64 sh]).mor hm
      have c0 := hb.cell 0
      have cl := hb.lt
      simp at c0
      have HM := Lib.hid ((Mor.refl w).alloc.trans' hm)
      clear hm hb
      go_wp2_with fail
      refine (HF.out _ HM.out).mono ?_
      rintro e w2 ⟨rfl, hm⟩
      have HM2 := Lib.hid (HM.out.trans' hm)
      clear hm
      go_wp2_with (go_at_call 38; (with_reducible refine (HD.out _).mono ?_); rintro e w1 ⟨rfl, rfl⟩)
      go_returns
      exact ⟨by rw [HBv.out, HBc.out] <;> rfl, HM2.out⟩
    · rw [if_neg h3] at HBc
      rw [HBc.out, if_neg (by decide)] at HBv
      rw [show (decide (0 ≤ day) && decide (day ≤ 292193)) = true by simp; omega] at HD
      go_enter Try.func20, Try.ntmps20
      go_wp2_with fail
      refine (HC.out _ (Mor.refl _).alloc).mono ?_
      rintro e w1 ⟨rfl, hm⟩
      have hb := (Bk.new w 25 #[.slice A n c, .slice X m k, .int .i64 sh]).mor hm
      have c0 := hb.cell 0
      have cl := hb.lt
      simp at c0
      have HB := Lib.hid hb
      have HM := Lib.hid ((Mor.refl w).alloc.trans' hm)
      clear hm hb
      go_wp2_with fail
      refine (HF.out _ HM.out).mono ?_
      rintro e w2 ⟨rfl, hm⟩
      have hb := HB.out.mor hm
      have HM2 := Lib.hid (HM.out.trans' hm)
      clear hm c0 cl
      have c0 := hb.cell 0
      have c1 := hb.cell 1
      have c2 := hb.cell 2
      have cl := hb.lt
      simp at c0 c1 c2
      clear hb
      go_wp2_with (first | (go_at_call 38; (with_reducible refine (HD.out _).mono ?_); rintro e w1 ⟨rfl, rfl⟩))
      refine (HO.out _ HM2.out).mono ?_
      rintro e w3 ⟨rfl, hm⟩
      have HM3 := Lib.hid (HM2.out.trans' hm)
      clear hm
      go_wp2_with fail
      go_returns
      exact ⟨by rw [HBv.out, HBc.out] <;> rfl, HM3.out⟩

end Go.Proofs.Ytpgefclnplmlkaa
