/- The walk of talkeep.SplitSum. -/
import Derived.Test.YtphkckonnogjmaaSplD
namespace Go.Proofs.Ytphkckonnogjmaa.splitSum
open Go.ChangeShapes Go.WideShapes Go.ChangeAt Go.RowKit Stb
set_option linter.unusedVariables false

theorem beg : byl 10 [1, 1, 1] = [4, 3, 3] := by decide
theorem beg_code : byc 10 [1, 1, 1] = 0 := by decide

set_option maxRecDepth 100000 in
set_option maxHeartbeats 3200000 in
theorem splitSum_walk (w : World) (a : Int) (wa : (Lit.int .i64 a).wf = true) (A : Option Addr) (len cap : Nat) (zs : List Int) (hz : IsRow .i64 w A len cap zs) :
    Calls Try.prog 12 #[.int .i64 a, .slice A len cap] w fun e w' => e = .returned (.bool true) ∧ Below w.heap.size w w' := by
  obtain ⟨hri, hlen, hcap, hmax, hwf, hnil⟩ := Ri.of_isRow hz
  generalize zs.take len = vs at *
  have HRI := Lib.hid hri
  have HLEN := Lib.hid hlen
  have HMX := Lib.hid hmax
  have hml : (len : Int) ≤ 9223372036854775807 := by unfold maxLen at hmax; omega
  clear hri hz hwf hmax
  by_cases hc : byc a vs = 0
  · have HK := Lib.hid (byk hc)
    have HD := Lib.hid (fun w (h : Ri w A vs) => by_any a A len cap vs w h hlen hc)
    have HL := Lib.hid (show (byl a vs).length = len by rw [byl_len, hlen])
    have m40 : len ≤ 40 := by have := HK.out.n40; omega
    obtain ⟨a1, a2⟩ : -1000000000000 ≤ a ∧ a ≤ 1000000000000 := ⟨HK.out.a1, HK.out.a2⟩
    obtain ⟨S, hS⟩ : ∃ S, vs.sum = S := ⟨_, rfl⟩
    have HS := Lib.hid hS
    obtain ⟨s1, s2⟩ : 0 < S ∧ S ≤ 40000000 := ⟨by rw [← hS]; exact HK.out.pos, by rw [← hS]; exact HK.out.le⟩
    clear hc hlen hS
    go_enter Try.func12, Try.ntmps12
    go_wp2_with fail
    refine (by_any 10 _ 3 3 [1, 1, 1] _ (Ri.of_row (row_lit [1, 1, 1] (by simp) rfl)) rfl beg_code).mono ?_
    rintro e w1 ⟨g0, rfl, ⟨bs0, k0, rfl⟩, hr⟩
    rw [beg] at hr
    have HR := Lib.hid hr
    clear hr
    go_wp2_with fail
    refine (equal_yes _ _ _ _ _ _ 3 [4, 3, 3] _ (HR.out.alloc) (row_lit [4, 3, 3] (by simp) rfl) rfl (by omega)).mono ?_
    rintro e w1 ⟨rfl, m0, rfl⟩
    clear HR
    go_wp2_with fail
    refine (HD.out _ (HRI.out.mor (by repeat (first | exact Mor.refl _ | apply Mor.alloc | apply Mor.more | apply Mor.drewN | apply Mor.drew)))).mono ?_
    rintro e w1 ⟨g, rfl, ⟨bs, k, rfl⟩, hr⟩
    rw [HLEN.out]
    (try simp [go_sem] at hr)
    have HRX := Lib.hid hr
    clear hr HD
    go_wp2_with fail
    refine (sum_ri A _ _ vs _ (HRI.out.mor (by repeat (first | exact Mor.refl _ | apply Mor.alloc | apply Mor.more | apply Mor.drewN | apply Mor.drew))) HLEN.out (fun x hx => by have := HK.out.wt x hx; omega) (by omega)).mono ?_
    rw [HS.out]
    rintro e w1 ⟨rfl, rfl⟩
    go_wp2_with fail
    refine (sum_row _ _ _ _ (byl a vs) _ HRX.out HL.out HK.out.all (by omega)).mono ?_
    rw [HK.out.sum]
    rintro e w1 ⟨rfl, rfl⟩
    go_wp2_with fail
    go_loopw [52] (fun i wr => ∃ k : Nat, k ≤ len ∧ i = .int .i64 k ∧ Hid (Mor w wr ∧ Row wr g 0 (byl a vs) ∧ Ri wr A vs)) (fun i _ => len - (intOf i).toNat)
    case atStart => exact ⟨0, Nat.zero_le _, rfl, Lib.hid ⟨by repeat (first | exact Mor.refl _ | apply Mor.alloc | apply Mor.more | apply Mor.drewN | apply Mor.drew), HRX.out, HRI.out.mor (by repeat (first | exact Mor.refl _ | apply Mor.alloc | apply Mor.more | apply Mor.drewN | apply Mor.drew))⟩⟩
    case round =>
      obtain ⟨k, hk, rfl, hw⟩ := hrel
      by_cases hlt : k < len
      · have hki : ((k : Nat) : Int) < (len : Int) := by omega
        have hk0 : (0 : Int) ≤ (k : Int) := by omega
        obtain ⟨x, hA, hxb, cv⟩ := hw.out.2.2.at_ k (by rw [HLEN.out]; exact hlt)
        subst hA
        have cx := hw.out.2.1.get k (by rw [HL.out]; exact hlt)
        rw [Nat.zero_add] at cx
        obtain ⟨n1, n2⟩ := HK.out.near k (by rw [HLEN.out]; exact hlt)
        obtain ⟨v1, v2⟩ := ri_getD HK.out.wt k
        obtain ⟨x1, x2⟩ := HK.out.bd k (by rw [HLEN.out]; exact hlt)
        rw [HS.out] at n1 n2
        generalize vs.getD k 0 = v at *
        generalize (byl a vs).getD k 0 = y at *
        obtain ⟨p1, p2⟩ := prod_bd a v 1000000000000 1000000 (by omega) (by omega) v1 v2 (by omega)
        have p3 : -1000000000050000000 ≤ y * S := by omega
        have p4 : y * S ≤ 1000000000050000000 := by omega
        have t1 : ¬ (S ≤ y * S - a * v) := by omega
        have t2 : ¬ (S ≤ -(y * S - a * v)) := by omega
        go_wp2
        go_roundw
        case rel => exact ⟨k + 1, by omega, by go_num, hw⟩
        case measure => simp [intOf]; omega
      · obtain rfl : k = len := by omega
        go_wp2
        go_ret
        exact ⟨rfl, hw.out.1.below⟩
  · have HD := Lib.hid (fun w (h : Ri w A vs) => by_no a A len cap vs w h HLEN.out (by have := HMX.out; omega) hc)
    generalize byc a vs = c at *
    go_enter Try.func12, Try.ntmps12
    go_wp2_with fail
    refine (by_any 10 _ 3 3 [1, 1, 1] _ (Ri.of_row (row_lit [1, 1, 1] (by simp) rfl)) rfl beg_code).mono ?_
    rintro e w1 ⟨g0, rfl, ⟨bs0, k0, rfl⟩, hr⟩
    rw [beg] at hr
    have HR := Lib.hid hr
    clear hr
    go_wp2_with fail
    refine (equal_yes _ _ _ _ _ _ 3 [4, 3, 3] _ (HR.out.alloc) (row_lit [4, 3, 3] (by simp) rfl) rfl (by omega)).mono ?_
    rintro e w1 ⟨rfl, m0, rfl⟩
    clear HR
    go_wp2_with fail
    refine (HD.out _ (HRI.out.mor (by repeat (first | exact Mor.refl _ | apply Mor.alloc | apply Mor.more | apply Mor.drewN | apply Mor.drew)))).mono ?_
    rintro e w1 ⟨rfl, ⟨bs, k, rfl⟩⟩
    go_wp2_with fail
    go_ret
    exact ⟨ret_b (by first | rfl | (simp; done) | (simp; omega)), (Mor.below (by repeat (first | exact Mor.refl _ | apply Mor.alloc | apply Mor.more | apply Mor.drewN | apply Mor.drew)))⟩

end Go.Proofs.Ytphkckonnogjmaa.splitSum
