/- The walk of talkeep.BookLines. -/
import Derived.Test.YtpgefclnplmlkaaBookS
namespace Go.Proofs.Ytpgefclnplmlkaa.bookLines
open Go.ChangeShapes Go.WideShapes Go.ChangeAt Go.RowKit Go.PlainAid
set_option linter.unusedVariables false

/-- the sum of all lines under a code -/
def lns (es : List En) (s : ByteArray) : Int := sm (fun e : En => lnOf e.ls s) es
theorem bal_last {b : Bok} (h : BOk b) (s : ByteArray) : ofS b.en s 0 292193 = lns b.en s := sm_congr fun e he => by
  obtain ⟨-, -, -, -, -, h1, h2, -⟩ := en_lines (h.enc e he)
  unfold enOf
  rw [if_neg (by omega)]
theorem bal_ahead {es : List En} (s : ByteArray) {F : Int} (h : ∀ e ∈ es, F ≤ e.day) : ofS es s 0 (F - 1) = 0 := sm_zero fun e he => by
  have := h e he
  unfold enOf
  rw [if_pos (by omega)]
theorem lns_bd {b : Bok} (h : BOk b) (s : ByteArray) (j : Nat) (hj : j ≤ b.en.length) : -12000000000000 * (j : Int) ≤ lns (b.en.take j) s ∧ lns (b.en.take j) s ≤ 12000000000000 * j := by
  have := sm_bd (f := fun e : En => lnOf e.ls s) (M := 12000000000000) (xs := b.en.take j) (fun e he => by
    obtain ⟨h1, -, -, h2, -⟩ := en_lines (h.enc e (List.mem_of_mem_take he))
    have := lnOf_bd h2 s
    omega)
  rw [show (b.en.take j).length = j by rw [List.length_take]; omega] at this
  unfold lns
  omega
/-- a part of one entry's lines -/
def lnt (ls : List Ln) (s : ByteArray) (q : Nat) : Int := lnOf (ls.take q) s
theorem lnt_zero (ls : List Ln) (s : ByteArray) : lnt ls s 0 = 0 := by unfold lnt; simp; rfl
theorem lnt_succ (ls : List Ln) (s : ByteArray) (q : Nat) (h : q < ls.length) : lnt ls s (q + 1) = lnt ls s q + if cd ls q = s then am ls q else 0 := by
  unfold lnt lnOf
  rw [sm_take _ _ _ h, (cd_at ls q h).1, (cd_at ls q h).2]
theorem lnt_all (ls : List Ln) (s : ByteArray) (q : Nat) (h : ls.length = q) : lnt ls s q = lnOf ls s := by unfold lnt; rw [List.take_of_length_le (by omega)]
theorem lnt_bd {ls : List Ln} (h : ∀ x ∈ ls, okL x) (hl : ls.length ≤ 12) (s : ByteArray) (q : Nat) : -12000000000000 ≤ lnt ls s q ∧ lnt ls s q ≤ 12000000000000 := by
  have := lnOf_bd (ls := ls.take q) (fun x hx => h x (List.mem_of_mem_take hx)) s
  have hq : (ls.take q).length ≤ 12 := by rw [List.length_take]; omega
  unfold lnt
  omega

set_option maxRecDepth 100000 in
set_option maxHeartbeats 3200000 in
theorem bookLines_walk (w : World) (A : Option Addr) (n c : Nat) (X : Option Addr) (m k : Nat) (b : Bok) (hb : Bq w A n c X m k b) (s : ByteArray) (ws : s.size ≤ maxLen) :
    Calls Try.prog 9 #[bv A n c X m k b.shut, .string s] w fun e w' => e = .returned (.bool true) ∧ Below w.heap.size w w' := by
  have hm63 : m ≤ maxLen := Nat.le_trans hb.le hb.max
  unfold maxLen at hm63
  have HBa := Lib.hid (fun w' (h : Mor w w') t => bal_any A n c X m k b s t w' (hb.mor h))
  have HGet := Lib.hid (fun w' (h : Mor w w') j (hj : j < m) (hc : bookc b = 0) => show Calls Try.prog 26 #[bv A n c X m k b.shut, .string (ne b.en j).key] w' (GetYes w' (ne b.en j)) by
    have hbo := (bookc_iff b).1 hc
    have hjl : j < b.en.length := by rw [hb.length]; exact hj
    obtain ⟨i, hi, hf, hn⟩ := find_mem hbo.keys (List.getElem_mem hjl)
    rw [← ne_eq _ _ hjl] at hf hn
    have h2 := get_yes A n c X m k b (ne b.en j).key w' (hb.mor h) hc i (by rw [← hb.length]; exact hi) hf
    rw [hn] at h2; exact h2)
  have HEs := Lib.hid (fun w' (h : Mor w w') => hb.es.mor h)
  have HN := Lib.hid hb.length
  generalize b.shut = sh at *
  clear hb
  go_enter Try.func9, Try.ntmps9
  go_wp2_with fail
  refine (begun_any _).mono ?_
  rintro e w2 ⟨rfl, hm⟩
  obtain ⟨c0, c1, c2, cl⟩ := bk_book _ _ _ _ _ _ _ _ hm
  obtain ⟨bP, hbP⟩ : ∃ g, g = w.heap.size := ⟨_, rfl⟩
  rw [← hbP] at c0 c1 c2 cl ⊢
  have HM2 := Lib.hid ((Mor.refl w).alloc.trans' hm)
  have HC := Lib.hid (fun w' (h : Mor w2 w') => show (w'.cell? ⟨bP, 0, none⟩ = some (.slice A n c) ∧ w'.cell? ⟨bP, 1, none⟩ = some (.slice X m k) ∧ w'.cell? ⟨bP, 2, none⟩ = some (.int .i64 sh) ∧ bP < w'.heap.size) by rw [hbP]; exact bk_book _ _ _ _ _ _ _ _ (hm.trans' h))
  clear hm hbP
  have HBl := Lib.hid (fun w' (h : Mor w w') => HBa.out w' h 292193)
  by_cases hc : balc b s 292193 = 0
  · obtain ⟨hbo, hhas, -, -, e2⟩ := balc_zero hc
    have hbc := (bookc_iff b).2 hbo
    rw [hc, e2, bal_last hbo] at HBl
    have hm60 : m ≤ 60 := by rw [← HN.out]; exact hbo.len
    have HBf := Lib.hid (fun w' (h : Mor w w') (F : Int) (h1 : 1 ≤ F) (h2 : F ≤ 292193) (h3 : ∀ i, i < m → F ≤ (ne b.en i).day) => show Calls Try.prog 20 #[bv A n c X m k sh, .string s, .int .i64 (F - 1)] w' fun e w'' => e = .returned (.tuple #[.int .i64 0, .int .i64 0]) ∧ Mor w' w'' by
      have h4 := HBa.out w' h (F - 1)
      have h5 := balc_of hbo hhas (d := F - 1) (by omega) (by omega)
      obtain ⟨_, _, _, _, h6⟩ := balc_zero h5
      rw [h6, h5, bal_ahead s (fun e he => by
        obtain ⟨i, hi, rfl⟩ := List.mem_iff_getElem.1 he
        have := h3 i (by rw [← HN.out]; exact hi)
        rw [ne_eq _ _ hi] at this
        exact this)] at h4
      exact h4)
    have HGt := Lib.hid (fun w' (h : Mor w w') j (hj : j < m) => HGet.out w' h j hj hbc)
    have HBd := Lib.hid (fun j (hj : j ≤ m) => lns_bd hbo s j (by rw [HN.out]; exact hj))
    have HTk := Lib.hid (fun j (hj : j < m) => show lns (b.en.take (j + 1)) s = lns (b.en.take j) s + lnOf (ne b.en j).ls s by
      unfold lns
      rw [sm_take _ _ _ (by rw [HN.out]; exact hj), ne_eq _ _ (by rw [HN.out]; exact hj)])
    have HAll := Lib.hid (show lns (b.en.take m) s = lns b.en s by rw [List.take_of_length_le (by rw [HN.out]; exact Nat.le_refl _)])
    have HLs := Lib.hid (fun j (hj : j < m) => show (∀ x ∈ (ne b.en j).ls, okL x) ∧ (ne b.en j).ls.length ≤ 12 ∧ 0 ≤ (ne b.en j).day ∧ (ne b.en j).day ≤ 292193 by
      have hjl : j < b.en.length := by rw [HN.out]; exact hj
      obtain ⟨h1, -, -, h2, -, h3, h4, -⟩ := en_lines (hbo.enc _ (List.getElem_mem hjl))
      rw [← ne_eq _ _ hjl] at h1 h2 h3 h4
      exact ⟨h2, h1, h3, h4⟩)
    have hz : lns (b.en.take 0) s = 0 := by simp; rfl
    clear hbo hhas hbc e2 hc HGet HBa
    go_wp2_with fail
    refine (HBl.out _ HM2.out).mono ?_
    rintro e w3 ⟨rfl, hm3⟩
    have HM3 := Lib.hid (HM2.out.trans' hm3)
    have HC3 := Lib.hid (fun w' (h : Mor w3 w') => HC.out w' (hm3.trans' h))
    clear hm3 c0 c1 c2 cl HC HBl
    obtain ⟨c0, c1, c2, cl⟩ := HC3.out _ (Mor.refl _)
    generalize lns b.en s = all at *
    go_wp2_with fail
    go_loopw [7, 8, 30] (fun v f i wr => ∃ (j : Nat) (F : Int), j ≤ m ∧ i = .int .i64 j ∧ v = .int .i64 (lns (b.en.take j) s) ∧ f = .int .i64 F ∧ 0 ≤ F ∧ F ≤ 292193 ∧ Hid (∀ i, i < j → F ≤ (ne b.en i).day) ∧ Hid (Mor w3 wr)) (fun _ _ i _ => m - (intOf i).toNat)
    case atStart => exact ⟨0, 292193, Nat.zero_le _, rfl, by rw [hz], rfl, by omega, by omega, Lib.hid (fun i hi => absurd hi (Nat.not_lt_zero _)), Lib.hid (Mor.refl _)⟩
    case round =>
      obtain ⟨j, F, hj, rfl, rfl, rfl, hF0, hF9, HFd, HM⟩ := hrel
      clear c0 c1 c2 cl
      by_cases hlt : j < m
      · have hji : (j : Int) < (m : Int) := by omega
        have hj0 : (0 : Int) ≤ (j : Int) := by omega
        obtain ⟨x, A', n', c', hX, hxb, hks, d0, d1, d2, hl⟩ := (HEs.out _ (HM3.out.trans' HM.out)).at_ j (by rw [HN.out]; exact hlt)
        subst hX
        obtain ⟨c0, c1, c2, cl⟩ := HC3.out _ HM.out
        have HGj := Lib.hid (fun w' (h : Mor wr w') => show Calls Try.prog 26 #[bv A n c (some x) m k sh, .string (ne b.en j).key] w' (fun e w'' => ∃ A n c, e = .returned (.tuple #[.agg #[.string (ne b.en j).key, .int .i64 (ne b.en j).day, .slice A n c], .int .i64 0]) ∧ Lq w'' A n c (ne b.en j).ls ∧ Mor w' w'') from (HGt.out w' ((HM3.out.trans' HM.out).trans' h) j hlt).mono fun e w'' h => getYes_lq h)
        obtain ⟨ho, hl12, hd0, hd9⟩ := HLs.out j hlt
        have HTj := Lib.hid (HTk.out j hlt)
        have hn' : n' ≤ 12 := by rw [← hl.length]; exact hl12
        have HSm := Lib.hid (fun w' (h : Mor wr w') A2 n2 c2 (h2 : Lq w' A2 n2 c2 (ne b.en j).ls) => show n2 = n' ∧ Calls Try.prog 27 #[.agg #[.string (ne b.en j).key, .int .i64 (ne b.en j).day, .slice A' n' c'], .agg #[.string (ne b.en j).key, .int .i64 (ne b.en j).day, .slice A2 n2 c2]] w' fun e w'' => e = .returned (.bool true) ∧ Mor w' w'' from by
          have e : n2 = n' := by rw [← h2.length, ← hl.length]
          subst e
          refine ⟨rfl, ?_⟩
          have h3 := rsame_any (ne b.en j) (ne b.en j) A' A2 n2 c' n2 c2 w' (hl.mor h) h2
          rw [decide_eq_true (rfl : ne b.en j = ne b.en j)] at h3
          exact h3)
        have HBs := Lib.hid (fun q => lnt_bd ho hl12 s q)
        have HNl := Lib.hid hl.length
        obtain ⟨q1, q2⟩ := HBd.out j hj
        have HF := Lib.hid (show ∃ F' : Int, min F (ne b.en j).day = F' ∧ 0 ≤ F' ∧ F' ≤ 292193 ∧ ∀ i, i < j + 1 → F' ≤ (ne b.en i).day from ⟨_, rfl, by omega, by omega, fun i hi => by
          by_cases h : i = j
          · subst h; omega
          · have := HFd.out i (by omega)
            omega⟩)
        generalize (ne b.en j).key = ky at *
        generalize (ne b.en j).day = dy at *
        generalize (ne b.en j).ls = ls at *
        generalize lns (b.en.take j) s = S at *
        clear ho hl hl12 HFd
        go_wp2_with fail
        refine (HGj.out _ (Mor.refl _).alloc).mono ?_
        rintro e w4 ⟨A5, n5, c5, rfl, hq5, hm4⟩
        have hX4 := (C3.new wr (.string ky) (.int .i64 dy) (.slice A' n' c') 42).mor hm4
        have hM4 := (Mor.refl wr).alloc.trans' hm4
        obtain ⟨bO, hbO⟩ : ∃ g, g = wr.heap.size := ⟨_, rfl⟩
        rw [← hbO] at hX4 ⊢
        have HM4 := Lib.hid (HM.out.trans' hM4)
        have HX4 := Lib.hid hX4
        have HQ5 := Lib.hid hq5
        have hSm := (HSm.out (w4.alloc (.cells #[.string ky, .int .i64 dy, .slice A5 n5 c5] 42)) hM4.alloc A5 n5 c5 (hq5.mor (Mor.refl _).alloc))
        obtain ⟨rfl, hSm⟩ := hSm
        have HSm2 := Lib.hid hSm
        obtain ⟨e0, e1, e2, el⟩ := hX4
        clear hSm HSm hq5 hm4 hbO hM4 HGj c0 c1 c2 cl d0 d1 d2
        go_wp2_with fail
        refine HSm2.out.mono ?_
        rintro e w5 ⟨rfl, hm5⟩
        have hY5 := (C3.new w4 (.string ky) (.int .i64 dy) (.slice A5 n5 c5) 42).mor hm5
        have hM5 := (Mor.refl w4).alloc.trans' hm5
        have HX5 := Lib.hid (HX4.out.mor hM5)
        have HM5 := Lib.hid (HM4.out.trans' hM5)
        have HQ5' := Lib.hid (HQ5.out.mor hM5)
        obtain ⟨bY, hbY⟩ : ∃ g, g = w4.heap.size := ⟨_, rfl⟩
        rw [← hbY] at hY5 ⊢
        obtain ⟨y0, y1, y2, yl⟩ := hY5
        clear hm5 hM5 hbY e0 e1 e2 el HSm2
        go_wp2_with fail
        go_loopw [7, 52] (fun v i wq => ∃ (q : Nat), q ≤ n5 ∧ i = .int .i64 q ∧ v = .int .i64 (S + lnt ls s q) ∧ Hid (Mor w5 wq)) (fun _ i _ => n5 - (intOf i).toNat)
        case atStart => exact ⟨0, Nat.zero_le _, rfl, by rw [lnt_zero, Int.add_zero], Lib.hid (Mor.refl _)⟩
        case round =>
          obtain ⟨q, hq, rfl, rfl, HMq⟩ := hrel
          clear y0 y1 y2 yl
          obtain ⟨l1, l2⟩ := HBs.out q
          by_cases hqt : q < n5
          · have hqi : (q : Int) < (n5 : Int) := by omega
            have hq0 : (0 : Int) ≤ (q : Int) := by omega
            obtain ⟨z, hA5, hzb, f0, f1⟩ := (HQ5'.out.si.mor HMq.out).at_ q (by rw [HQ5'.out.length]; exact hqt)
            subst hA5
            have HLt := Lib.hid (lnt_succ ls s q (by rw [HNl.out]; exact hqt))
            have HLb := Lib.hid (HBs.out (q + 1))
            rw [HLt.out] at HLb
            by_cases hcs : cd ls q = s
            · rw [if_pos hcs] at HLt HLb
              rw [hcs] at f0
              obtain ⟨l3, l4⟩ := HLb.out
              generalize lnt ls s q = L at *
              generalize am ls q = a at *
              clear hcs
              go_wp2_with fail
              go_roundw
              case rel => exact ⟨q + 1, by omega, by go_num, by rw [HLt.out, Int.add_assoc], Lib.hid (HMq.out.alloc)⟩
              case measure => simp [intOf]; omega
            · rw [if_neg hcs] at HLt
              have hcb : ((cd ls q).toList == s.toList) = false := by rw [str_eq, decide_eq_false hcs]
              generalize lnt ls s q = L at *
              generalize am ls q = a at *
              generalize cd ls q = t at *
              go_wp2_with fail
              go_roundw
              case rel => exact ⟨q + 1, by omega, by go_num, by rw [HLt.out, Int.add_zero], Lib.hid (HMq.out.alloc)⟩
              case measure => simp [intOf]; omega
          · obtain rfl : q = n5 := by omega
            obtain ⟨e0, e1, e2, el⟩ := HX5.out.mor HMq.out
            obtain ⟨F', hF', hF0', hF9', hFd'⟩ := HF.out
            have HFd' := Lib.hid hFd'
            clear hFd'
            have HLa := Lib.hid (lnt_all ls s q HNl.out)
            go_wp2_with fail
            go_roundw
            case rel => exact ⟨j + 1, F', by omega, by go_num, by rw [HTj.out, ← HLa.out], rfl, hF0', hF9', HFd', Lib.hid (HM5.out.trans' HMq.out)⟩
            case measure => simp [intOf]; omega
      · obtain rfl : j = m := by omega
        rw [HAll.out]
        obtain ⟨c0, c1, c2, cl⟩ := HC3.out _ HM.out
        by_cases hF : F = 0
        · subst hF
          go_wp2_with fail
          go_ret
          exact ⟨rfl, (HM3.out.trans' HM.out).below⟩
        · have HBj := Lib.hid (fun w' (h : Mor wr w') => HBf.out w' ((HM3.out.trans' HM.out).trans' h) F (by omega) hF9 HFd.out)
          go_wp2_with fail
          refine (HBj.out _ (Mor.refl _)).mono ?_
          rintro e w6 ⟨rfl, hm6⟩
          go_wp2_with fail
          go_ret
          exact ⟨by simp, ((HM3.out.trans' HM.out).trans' hm6).below⟩
  · have hz := balv_bad hc
    have hcb : (balc b s 292193 != 0) = true := by simpa using hc
    rw [hz] at HBl
    generalize balc b s 292193 = r at *
    go_wp2_with fail
    refine (HBl.out _ HM2.out).mono ?_
    rintro e w3 ⟨rfl, hm3⟩
    have HM3 := Lib.hid (HM2.out.trans' hm3)
    clear hm3
    go_wp2_with fail
    go_ret
    exact ⟨by simp, HM3.out.below⟩

end Go.Proofs.Ytpgefclnplmlkaa.bookLines
