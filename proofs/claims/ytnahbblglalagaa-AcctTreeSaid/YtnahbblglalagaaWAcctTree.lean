/- The walk of talkeep.AcctTree. -/
import Derived.Test.YtnahbblglalagaaUndrP
import Derived.BigRegion
namespace Go.Proofs.Ytnahbblglalagaa.acctTree
open Go.ChangeShapes Go.WideShapes Go.ChangeAt Go.RowKit Go.PlainAid
set_option linter.unusedVariables false

/-- the two cells of a pair -/
def pc (x : Ln) : List Value := [.string x.1, .int .i64 x.2]
theorem pc_len (x : Ln) : (pc x).length = 2 := rfl
theorem adds (b o i : Nat) : (⟨b, o, none⟩ : Addr).add i = ⟨b, o + i, none⟩ := by
  unfold Addr.add; split
  · subst_vars; rfl
  · rfl
theorem cd_get' (xs : List Ln) (i : Nat) (h : i < xs.length) : cd xs i = xs[i].1 ∧ am xs i = xs[i].2 := by
  unfold cd am; rw [List.getD_eq_getElem?_getD, List.getElem?_eq_getElem h]; exact ⟨rfl, rfl⟩
theorem si_of_rd {w : World} {A : Option Addr} {xs : List Ln} (h : Rd w A (flat pc xs)) : Si w A xs := by
  by_cases h0 : xs = []
  · exact .inl h0
  · have hl : 0 < xs.length := List.length_pos_iff.2 h0
    obtain ⟨b, o, hA, hb, _⟩ := Rd.field 2 pc_len h 0 hl (by omega)
    refine .inr ⟨⟨b, o, none⟩, hA, hb, fun i hi => ?_⟩
    obtain ⟨b', o', hA', _, hc⟩ := Rd.field 2 pc_len h i hi (by omega)
    rw [hA] at hA'
    injection hA' with hA'
    injection hA' with h1 h2
    subst h1 h2
    obtain ⟨e1, e2⟩ := cd_get' xs i hi
    have c0 := hc 0 (by omega)
    have c1 := hc 1 (by omega)
    rw [adds, e1, e2]
    exact ⟨by simpa [pc] using c0, by simpa [pc] using c1⟩
theorem dig_code {t : ByteArray} (h : codeB t = true) : dig t := by
  unfold codeB at h
  rw [Bool.and_eq_true, Bool.and_eq_true] at h
  have h3 := h.2
  unfold allB at h3
  rw [List.all_eq_true] at h3
  intro c hc
  obtain ⟨i, hi, rfl⟩ := List.mem_iff_getElem.1 hc
  have hi' : i < t.size := by rw [← size_list]; exact hi
  have := h3 i (List.mem_range.2 hi')
  have e : bt t i = (t.toList[i].toNat : Int) := by
    unfold bt
    simp only [ByteArray.toList_eq]
    rw [dif_pos hi']
    rfl
  rw [e] at this
  unfold digB at this
  rw [Bool.and_eq_true] at this
  have h1 := of_decide_eq_true this.1
  have h2 := of_decide_eq_true this.2
  omega
abbrev q10 : ByteArray := { data := #[49, 48] }
abbrev q1 : ByteArray := { data := #[49] }
def plainA : List Ln := [(q10, 0), ({ data := #[50, 48] }, 1), ({ data := #[51, 48] }, 2), ({ data := #[52, 48] }, 3), ({ data := #[53, 48] }, 4)]
theorem plain_und : acc plainA = 0 ∧ und plainA q1 = [q10] := by
  constructor
  · decide +kernel
  · decide +kernel
theorem plain_str : ∀ i, i < 5 → (cd plainA i).size ≤ maxLen := by
  intro i hi
  match i, hi with
  | 0, _ | 1, _ | 2, _ | 3, _ | 4, _ => exact of_decide_eq_true (by decide)
set_option maxHeartbeats 1600000 in
theorem plain_any (w : World) :
    Calls Try.prog 17 #[] w fun e w' => ∃ g, e = .returned (.agg #[.slice (some ⟨g, 0, none⟩) 5 5, .slice none 0 0, .int .i64 (-1)]) ∧ Lq w' (some ⟨g, 0, none⟩) 5 5 plainA ∧ Mor w w' := by
  go_enter Try.func17, Try.ntmps17
  go_wp2_with fail
  go_returns
  refine ⟨w.heap.size + 1, rfl, ⟨si_of_rd (Rd.new (flat pc plainA) (by simp) ?_), rfl, Nat.le_refl _, by unfold maxLen; omega, (fun h => by cases h), plain_str⟩, (Mor.refl _).alloc.alloc⟩
  simp [flat, pc, plainA]
set_option maxHeartbeats 800000 in
theorem clo_at (g : Nat) (U : Option Addr) (nx kx : Nat) (xs : List ByteArray) (s : ByteArray) (w : World) (hb : w.cell? ⟨g, 0, none⟩ = some (.slice U nx kx)) (hg : g < w.heap.size) (hr : Rs w U xs) (hn : xs.length = nx) (hl : nx ≤ 1000) :
    Calls Try.prog 20 #[.string s, .pointer (some ⟨g, 0, none⟩)] w fun e w' => e = .returned (.bool (!memB s xs)) ∧ Mor w w' := by
  have HC := Lib.hid (contains_str U nx kx xs s w hr hn hl)
  clear hr hn
  go_enter Try.func20, Try.ntmps20
  go_wp2_with fail
  refine HC.out.mono ?_
  rintro e w1 ⟨rfl, hm⟩
  have HM := Lib.hid hm
  clear hm
  go_wp2_with fail
  go_ret
  exact ⟨rfl, HM.out⟩

set_option maxRecDepth 100000 in
set_option maxHeartbeats 3200000 in
theorem acctTree_walk (w : World) (A : Option Addr) (n c : Nat) (ac : List Ln) (hl : Lq w A n c ac) (s : ByteArray) (hs : s.size ≤ 140737488351232) :
    Calls Try.prog 5 #[.slice A n c, .string s] w fun e w' => e = .returned (.bool true) ∧ Below w.heap.size w w' := by
  have HU := Lib.hid (fun w' (h : Mor w w') t (ht : t.size ≤ maxLen) => under_any A n c ac t w' (hl.mor h) ht)
  have HN := Lib.hid hl.length
  have hs63 : s.size ≤ maxLen := by unfold maxLen; omega
  clear hl
  go_enter Try.func5, Try.ntmps5
  go_wp2_with fail
  refine (plain_any _).mono ?_
  rintro e w1 ⟨g, rfl, hp, hm⟩
  have HM1 := Lib.hid hm
  have hUp := under_any (some ⟨g, 0, none⟩) 5 5 plainA q1 w1 hp (by show 1 ≤ maxLen; unfold maxLen; omega)
  have hq : undO plainA q1 = [q10] := by unfold undO; rw [if_pos plain_und.1, plain_und.2]
  rw [plain_und.1, hq] at hUp
  have HUp := Lib.hid hUp
  clear hm hp hUp hq
  have hfd : ∀ w : World, (Instr.field 50 (.agg #[.slice (some ⟨g, 0, none⟩) 5 5, .slice none 0 0, .int .i64 (-1)]) 0).run Try.prog w = .ok (.slice (some ⟨g, 0, none⟩) 5 5) w := fun _ => by kernel_rfl
  go_wp2_with fail
  clear hfd
  refine HUp.out.mono ?_
  rintro e w2 ⟨U2, k2, rfl, hr2, hm⟩
  have HM2 := Lib.hid (HM1.out.trans' hm)
  have HR2 := Lib.hid hr2
  clear hm hr2 HUp HM1
  rw [show ([q10] : List ByteArray).length = 1 from rfl]
  go_wp2_with fail
  refine (equal_one U2 _ k2 1 q10 _ (HR2.out.mor (Mor.refl _).alloc) (Rd.new _ rfl rfl)).mono ?_
  rintro e w3 ⟨rfl, hm⟩
  have HM3 := Lib.hid (HM2.out.alloc.trans' hm)
  clear hm HR2 HM2
  go_wp2_with fail
  refine (HU.out _ HM3.out s hs63).mono ?_
  rintro e w4 ⟨U, k, rfl, hr, hm⟩
  have HM4 := Lib.hid (HM3.out.trans' hm)
  by_cases hc : acc ac = 0
  · have ho : ∀ t, undO ac t = und ac t := fun t => by unfold undO; rw [if_pos hc]
    have hlen : (und ac s).length ≤ 24 := Nat.le_trans (und_len ac s) (acc_ok hc).1
    have HSub := Lib.hid (fun d (hd : d < 10) i (hi : i < (und ac (cx s d)).length) => show memB (sx (und ac (cx s d)) i) (und ac s) = true by
      rw [memB_iff, und_mem]
      have h1 := und_mem.1 (show sx (und ac (cx s d)) i ∈ und ac (cx s d) by rw [sx_eq _ _ hi]; exact List.getElem_mem hi)
      exact ⟨h1.1, pre_less hd h1.2⟩)
    have HLd := Lib.hid (fun d => show (und ac (cx s d)).length ≤ 24 from Nat.le_trans (und_len ac _) (acc_ok hc).1)
    have HDs := Lib.hid (fun d => show 0 ≤ dsum ac s d ∧ dsum ac s d ≤ 24 * (d : Int) by
      induction d with
      | zero => exact ⟨Int.le_refl _, Int.le_refl _⟩
      | succ d ih =>
        have h2 : (und ac (cx s d)).length ≤ 24 := Nat.le_trans (und_len ac _) (acc_ok hc).1
        show 0 ≤ dsum ac s d + ((und ac (cx s d)).length : Int) ∧ dsum ac s d + ((und ac (cx s d)).length : Int) ≤ 24 * ((d + 1 : Nat) : Int)
        omega)
    have HAll := Lib.hid (und_all hc (fun a ha => dig_code ((acc_ok hc).2.2.1 a ha).1) s)
    have HSo := Lib.hid (und_sorted hc s)
    have HUd := Lib.hid (fun w' (h : Mor w w') d (hd : d < 10) => show Calls Try.prog 16 #[.slice A n c, .string (cx s d)] w' fun e w'' => ∃ U k, e = .returned (.tuple #[.slice U (und ac (cx s d)).length k, .int .i64 0]) ∧ Rs w'' U (und ac (cx s d)) ∧ Mor w' w'' by
      have h3 := HU.out w' h (cx s d) (by rw [(cx_list s d hd).2]; unfold maxLen; omega)
      rw [ho, hc] at h3
      exact h3)
    rw [ho] at hr ⊢
    rw [hc]
    have HRx := Lib.hid (fun w' (h : Mor w4 w') => hr.mor h)
    clear hm hr hc ho HU
    go_wp2_with fail
    obtain ⟨w5, hw5⟩ : ∃ w5, w5 = w4.alloc (Obj.cells #[Value.slice U (und ac s).length k] 45) := ⟨_, rfl⟩
    obtain ⟨bX, hbX⟩ : ∃ bX, bX = w4.heap.size := ⟨_, rfl⟩
    have hXs : bX < w5.heap.size := by rw [hbX, hw5]; simp [go_sem]
    have hXc : w5.cell? ⟨bX, 0, none⟩ = some (.slice U (und ac s).length k) := by rw [hbX, hw5]; simp [go_sem]
    have HM5 := Lib.hid (show Mor w w5 by rw [hw5]; exact HM4.out.alloc)
    have HR5 := Lib.hid (fun w' (h : Mor w5 w') => HRx.out w' ((Mor.refl w4).alloc.trans' (by rw [← hw5]; exact h)))
    rw [← hw5, ← hbX]
    clear hw5 hbX HRx HM4
    have HCl := Lib.hid (fun x w' (h : Mor w5 w') => clo_at bX U (und ac s).length k (und ac s) x w' ((h.below.cell (p := ⟨bX, 0, none⟩) hXs).trans hXc) (Nat.lt_of_lt_of_le hXs h.below.size) (HR5.out w' h) rfl (by omega))
    have HCo := Lib.hid (fun w' (h : Mor w5 w') => contains_str U (und ac s).length k (und ac s) s w' (HR5.out w' h) rfl (by omega))
    have HSt := Lib.hid (fun w' (h : Mor w5 w') => sorted_str U (und ac s).length k (und ac s) w' (HR5.out w' h) rfl (by omega) HSo.out)
    clear HR5
    have HX := Lib.hid (fun w' (h : Mor w5 w') => show w'.cell? ⟨bX, 0, none⟩ = some (.slice U (und ac s).length k) from (h.below.cell (p := ⟨bX, 0, none⟩) hXs).trans hXc)
    clear hXs hXc
    go_loopw [9, 38] (fun v i wr => ∃ d : Nat, d ≤ 10 ∧ i = .int .i64 d ∧ v = .int .i64 (dsum ac s d) ∧ Hid (Mor w5 wr)) (fun _ i _ => 10 - (intOf i).toNat)
    case atStart => exact ⟨0, Nat.zero_le _, rfl, rfl, Lib.hid (Mor.refl _)⟩
    case round =>
      obtain ⟨d, hd, rfl, rfl, HM⟩ := hrel
      obtain ⟨hd1, hd2⟩ := HDs.out d
      by_cases hlt : d < 10
      · have hdi : (d : Int) < 10 := by omega
        have hd0 : (0 : Int) ≤ (d : Int) := by omega
        obtain ⟨e1, he1⟩ : ∃ e1, e1 = lit10.extract d (d + 1) := ⟨_, rfl⟩
        have hsl : ∀ wx, (Instr.slice 9 (.string { data := #[48, 49, 50, 51, 52, 53, 54, 55, 56, 57] }) (some (.int .i64 (d : Int))) (some (.int .i64 ((d : Int) + 1))) none).run Try.prog wx = .ok (.string e1) wx := fun wx => by
          have h := run_slice_string (P := Try.prog) wx 9 { data := #[48, 49, 50, 51, 52, 53, 54, 55, 56, 57] } .i64 .i64 (d : Int) ((d : Int) + 1) Try.underlying9 (by omega) (by omega) (by show (d : Int) + 1 ≤ 10; omega)
          rw [h, he1, show ((d : Int) + 1).toNat = d + 1 by omega, show ((d : Int)).toNat = d by omega]
        have HUn := Lib.hid (fun w' (h : Mor w w') => show Calls Try.prog 16 #[.slice A n c, .string (s ++ e1)] w' fun e w'' => ∃ U k, e = .returned (.tuple #[.slice U (und ac (cx s d)).length k, .int .i64 0]) ∧ Rs w'' U (und ac (cx s d)) ∧ Mor w' w'' by
          have h2 := HUd.out w' h d hlt
          unfold cx at h2 ⊢
          rw [← he1] at h2 ⊢
          exact h2)
        have hes : s.size + e1.size ≤ 9223372036854775807 := by
          have h2 := (cx_list s d hlt).2
          unfold cx at h2
          rw [← he1, ByteArray.size_append] at h2
          omega
        have HSb := Lib.hid (HSub.out d hlt)
        have hL := HLd.out d
        have HE := Lib.hid (show dsum ac s (d + 1) = dsum ac s d + ((und ac (cx s d)).length : Int) from rfl)
        generalize dsum ac s d = m at *
        generalize und ac (cx s d) = ys at *
        clear HUd HSub HLd HDs HAll HSo he1
        go_wp2_with (go_at_call 16; (with_reducible refine (HUn.out _ (HM5.out.trans' HM.out)).mono ?_); rintro e w6 ⟨V, kV, rfl, hrV, hm6⟩)
        have HM6 := Lib.hid (HM.out.trans' hm6)
        have HCf := Lib.hid (containsf_none 20 #[.pointer (some ⟨bX, 0, none⟩)] V ys.length kV ys w6 (fun _ _ => rfl) hrV rfl (by omega) (fun i w' hi h => (HCl.out (sx ys i) w' (HM6.out.trans' h)).mono (by rintro e w'' ⟨rfl, h⟩; exact ⟨by rw [HSb.out i hi]; rfl, h⟩)))
        generalize ys.length = q at *
        clear hrV hm6 HM HCl HSb HUn
        go_wp2_with (go_at_call 19; (with_reducible refine HCf.out.mono ?_); rintro e w7 ⟨rfl, hm7⟩)
        have HM7 := Lib.hid (HM6.out.trans' hm7)
        clear hm7 HM6 HCf
        go_wp2_with fail
        go_roundw
        case rel => exact ⟨d + 1, by omega, by go_num, by rw [HE.out], HM7⟩
        case measure => simp [intOf]; omega
      · obtain rfl : d = 10 := by omega
        have hAll := HAll.out
        have hXr := HX.out wr HM.out
        generalize dsum ac s 10 = m at *
        clear HUd HSub HLd HDs HAll HSo hd
        have HQ := Lib.hid hAll
        clear hAll
        generalize hmb : memB s (und ac s) = mb at *
        clear hmb
        cases mb
        · have hq := HQ.out
          rw [if_neg (by simp), Int.add_zero] at hq
          subst hq
          clear HQ
          go_wp2_with (first | (go_at_call 21; (with_reducible refine (HCo.out _ HM.out).mono ?_); rintro e w6 ⟨rfl, hm6⟩; have hXr := HX.out _ (HM.out.trans' hm6); have HM6 := Lib.hid (HM.out.trans' hm6); clear hm6) | (go_at_call 22; (with_reducible refine (HSt.out _ HM6.out).mono ?_); rintro e w7 ⟨rfl, hm7⟩))
          go_ret
          exact ⟨rfl, (HM5.out.trans' (HM6.out.trans' hm7)).below⟩
        · have hq := HQ.out
          rw [if_pos rfl] at hq
          obtain rfl : m = ((und ac s).length : Int) - 1 := by omega
          clear HQ hq
          go_wp2_with (first | (go_at_call 21; (with_reducible refine (HCo.out _ HM.out).mono ?_); rintro e w6 ⟨rfl, hm6⟩; have hXr := HX.out _ (HM.out.trans' hm6); have HM6 := Lib.hid (HM.out.trans' hm6); clear hm6) | (go_at_call 22; (with_reducible refine (HSt.out _ HM6.out).mono ?_); rintro e w7 ⟨rfl, hm7⟩))
          go_ret
          exact ⟨rfl, (HM5.out.trans' (HM6.out.trans' hm7)).below⟩
  · have ho : undO ac s = [] := by unfold undO; rw [if_neg hc]
    have hcb : (acc ac != 0) = true := by simpa using hc
    rw [ho] at hr ⊢
    generalize acc ac = r at *
    clear hm hr hc ho HU
    go_wp2_with fail
    go_ret
    exact ⟨by simp, HM4.out.alloc.below⟩

end Go.Proofs.Ytnahbblglalagaa.acctTree
