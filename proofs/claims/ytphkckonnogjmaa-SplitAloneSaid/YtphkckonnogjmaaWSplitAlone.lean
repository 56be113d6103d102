/- The walk of talkeep.SplitAlone. -/
import Derived.Test.YtphkckonnogjmaaSplD
import Derived.Test.YtphkckonnogjmaaWithinA
namespace Go.Proofs.Ytphkckonnogjmaa.splitAlone
open Go.ChangeShapes Go.WideShapes Go.ChangeAt Go.RowKit Stb
set_option linter.unusedVariables false

theorem beg : byl 7 [0, 3] = [0, 7] := by decide
theorem beg_code : byc 7 [0, 3] = 0 := by decide
/-- one weight alone -/
def lone (n i : Nat) (v : Int) : List Int := (List.replicate n 0).set i v
theorem lone_len (n i : Nat) (v : Int) : (lone n i v).length = n := by simp [lone]
theorem lone_get (n i : Nat) (v : Int) (h : i < n) : (lone n i v).getD i 0 = v := by
  unfold lone; rw [List.getD_eq_getElem?_getD, List.getElem?_set, if_pos rfl, if_pos (by simpa using h)]; rfl
theorem lone_sum (n i : Nat) (v : Int) (h : i < n) : (lone n i v).sum = v := by
  unfold lone
  induction n generalizing i with
  | zero => omega
  | succ n ih =>
    rw [List.replicate_succ]
    cases i with
    | zero => simp
    | succ i => rw [List.set_cons_succ, List.sum_cons, ih i (by omega)]; simp
theorem lone_mem {n i : Nat} {v x : Int} (h : x ∈ lone n i v) : x = 0 ∨ x = v := by
  unfold lone at h
  rcases List.mem_or_eq_of_mem_set h with h | h
  · exact .inl (List.mem_replicate.1 h).2
  · exact .inr h
theorem lone_code (n i : Nat) (v A : Int) (h : i < n) (hn : n ≤ 40) (h1 : 1 ≤ v) (h2 : v ≤ 1000000) (h3 : -1000000000000 ≤ A) (h4 : A ≤ 1000000000000) : byc A (lone n i v) = 0 := by
  have e : swc (lone n i v) = 0 := by
    unfold swc
    rw [lone_len, if_neg (by omega), if_pos]
    rw [List.all_eq_true]
    intro x hx
    unfold swOk
    rcases lone_mem hx with rfl | rfl <;> simp <;> omega
  unfold byc
  rw [if_neg (by simp [e]), if_neg (by omega), if_neg (by rw [lone_sum n i v h]; omega)]
theorem near_zero {y S : Int} (h0 : 0 < S) (h1 : -S < y * S) (h2 : y * S < S) : y = 0 := by
  have a : y < 1 := by
    rcases Int.lt_or_le y 1 with c | c
    · exact c
    · have := Int.mul_le_mul_of_nonneg_right c (show 0 ≤ S by omega); omega
  have b : -1 < y := by
    rcases Int.lt_or_le (-1) y with c | c
    · exact c
    · have := Int.mul_le_mul_of_nonneg_right c (show 0 ≤ S by omega); omega
  omega
theorem lone_all {n i : Nat} {v A : Int} (h : i < n) (hk : Byk A (lone n i v)) : (byl A (lone n i v)).getD i 0 = A := by
  have h1 := hk.near i (by rw [lone_len]; exact h)
  have h0 := hk.pos
  rw [lone_sum n i v h] at h0
  rw [lone_sum n i v h, lone_get n i v h, ← Int.sub_mul] at h1
  have := near_zero h0 h1.1 h1.2
  omega
theorem byk_zero {A : Int} {l : List Int} (hk : Byk A l) (k : Nat) (h : k < l.length) (h0 : l.getD k 0 = 0) : (byl A l).getD k 0 = 0 := by
  have h1 := hk.near k h
  rw [h0] at h1
  simp only [Int.mul_zero, Int.sub_zero] at h1
  exact near_zero hk.pos h1.1 h1.2

set_option maxRecDepth 100000 in
set_option maxHeartbeats 3200000 in
theorem splitAlone_walk (w : World) (a : Int) (wa : (Lit.int .i64 a).wf = true) (A : Option Addr) (len cap : Nat) (zs : List Int) (hz : IsRow .i64 w A len cap zs) (ii : Int) (wi0 : (Lit.int .i64 ii).wf = true) :
    Calls Try.prog 14 #[.int .i64 a, .slice A len cap, .int .i64 ii] w fun e w' => e = .returned (.bool true) ∧ Below w.heap.size w w' := by
  obtain ⟨hri, hlen, hcap, hmax, hwf, hnil⟩ := Ri.of_isRow hz
  generalize zs.take len = vs at *
  have HRI := Lib.hid hri
  have HLEN := Lib.hid hlen
  have HMX := Lib.hid hmax
  have hml : (len : Int) ≤ 9223372036854775807 := by unfold maxLen at hmax; omega
  clear hri hz hwf hmax
  by_cases hc : byc a vs = 0
  · have HK := Lib.hid (byk hc)
    have HD := Lib.hid (fun w (h : Ri w A vs) => by_any a A len cap vs w h hlen hc)
    have HL := Lib.hid (show (byl a vs).length = len by rw [byl_len, hlen])
    have m40 : len ≤ 40 := by have := HK.out.n40; omega
    have m1 : 1 ≤ len := by
      rcases Nat.eq_zero_or_pos len with e | e
      · exfalso
        have := HK.out.pos
        rw [List.eq_nil_of_length_eq_zero (by omega : vs.length = 0)] at this
        exact absurd this (by decide)
      · exact e
    obtain ⟨a1, a2⟩ : -1000000000000 ≤ a ∧ a ≤ 1000000000000 := ⟨HK.out.a1, HK.out.a2⟩
    have hmk := fun w => run_make_row' (P := Try.prog) 23 3 (.int .i64 0) 8 Try.underlying23 info_int' rfl .i64 .i64 len (by omega) (by omega) w
    obtain ⟨i, hi, hie⟩ : ∃ i : Nat, i < len ∧ wi ii len = (i : Int) := by
      have h1 := wi_lo ii len (by omega)
      have h2 := wi_hi ii len (by omega)
      exact ⟨(wi ii len).toNat, by omega, by omega⟩
    have HWi := Lib.hid (fun w => within_any ii len w (by omega) (by omega))
    rw [hie] at HWi
    clear hc hlen hie
    go_enter Try.func14, Try.ntmps14
    go_wp2_with fail
    refine (by_any 7 _ 2 2 [0, 3] _ (Ri.of_row (row_lit [0, 3] (by simp) rfl)) rfl beg_code).mono ?_
    rintro e w1 ⟨g0, rfl, ⟨bs0, k0, rfl⟩, hr⟩
    rw [beg] at hr
    have HR := Lib.hid hr
    clear hr
    go_wp2_with fail
    refine (equal_yes _ _ _ _ _ _ 2 [0, 7] _ (HR.out.alloc) (row_lit [0, 7] (by simp) rfl) rfl (by omega)).mono ?_
    rintro e w1 ⟨rfl, m0, rfl⟩
    clear HR
    go_wp2_with fail
    refine (HD.out _ (HRI.out.mor (by repeat (first | exact Mor.refl _ | apply Mor.alloc | apply Mor.more | apply Mor.drewN | apply Mor.drew)))).mono ?_
    rintro e w1 ⟨g, rfl, ⟨bs, k, rfl⟩, hr⟩
    rw [HLEN.out]
    (try simp [go_sem] at hr)
    have HRX := Lib.hid hr
    clear hr HD
    go_wp2_with fail
    go_loopw [52] (fun i wr => ∃ k : Nat, k ≤ len ∧ i = .int .i64 k ∧ Hid (Mor w wr ∧ Row wr g 0 (byl a vs) ∧ Ri wr A vs)) (fun i _ => len - (intOf i).toNat)
    case atStart => exact ⟨0, Nat.zero_le _, rfl, Lib.hid ⟨by repeat (first | exact Mor.refl _ | apply Mor.alloc | apply Mor.more | apply Mor.drewN | apply Mor.drew), HRX.out, HRI.out.mor (by repeat (first | exact Mor.refl _ | apply Mor.alloc | apply Mor.more | apply Mor.drewN | apply Mor.drew))⟩⟩
    case round =>
      obtain ⟨k, hk, rfl, hw⟩ := hrel
      by_cases hlt : k < len
      · have hki : ((k : Nat) : Int) < (len : Int) := by omega
        have hk0 : (0 : Int) ≤ (k : Int) := by omega
        obtain ⟨x, hA, hxb, cv⟩ := hw.out.2.2.at_ k (by rw [HLEN.out]; exact hlt)
        subst hA
        have cx := hw.out.2.1.get k (by rw [HL.out]; exact hlt)
        rw [Nat.zero_add] at cx
        have HZ := Lib.hid (fun h => byk_zero HK.out k (by rw [HLEN.out]; exact hlt) h)
        generalize vs.getD k 0 = v at *
        generalize (byl a vs).getD k 0 = y at *
        by_cases hv : v = 0
        · have hy := HZ.out hv
          subst hv hy
          go_wp2
          go_roundw
          case rel => exact ⟨k + 1, by omega, by go_num, hw⟩
          case measure => simp [intOf]; omega
        · have hb : (v == 0) = false := by simpa using hv
          go_wp2
          go_roundw
          case rel => exact ⟨k + 1, by omega, by go_num, hw⟩
          case measure => simp [intOf]; omega
      · obtain rfl : k = len := by omega
        rw [ic_zero] at hmk
        obtain ⟨x, hA, hxb, cv⟩ := (hw.out.2.2.alloc (o := .cells (ic (List.replicate k 0)) 3)).at_ i (by rw [HLEN.out]; exact hi)
        subst hA
        obtain ⟨v1, v2⟩ := ri_getD HK.out.wt i
        have HB := Lib.hid (lone_code k i (1 + vs.getD i 0 / 2) a hi m40 (by omega) (by omega) a1 a2)
        generalize vs.getD i 0 = v at *
        have hii : (i : Int) < (k : Int) := by omega
        have hi0 : (0 : Int) ≤ (i : Int) := by omega
        have c0 : (wr.alloc (.cells (ic (List.replicate k 0)) 3)).cell? ⟨wr.heap.size, i, none⟩ = some (.int .i64 0) := by
          rw [World.cell?_alloc_new, ic_get _ _ (by simpa using hi)]
          simp [List.getD_eq_getElem?_getD, hi]
        go_wp2_with fail
        refine (HWi.out _).mono ?_
        rintro e w1 ⟨rfl, rfl⟩
        go_wp2_with fail
        rw [ic_set]
        have HBK := Lib.hid (byk HB.out)
        have HL2 := Lib.hid (show (byl a (lone k i (1 + v / 2))).length = k by rw [byl_len, lone_len])
        refine (by_any a _ k k (lone k i (1 + v / 2)) _ (Ri.of_row (row_lit _ rfl rfl)) (lone_len _ _ _) HB.out).mono ?_
        rintro e w1 ⟨g2, rfl, ⟨bs2, k2, rfl⟩, hr2⟩
        rw [lone_len]
        have HR2 := Lib.hid hr2
        have c2 := hr2.get i (by rw [HL2.out]; exact hi)
        rw [Nat.zero_add, lone_all hi HBK.out] at c2
        clear hr2
        go_wp2_with fail
        refine (sum_row _ _ _ _ (byl a (lone k i (1 + v / 2))) _ HR2.out HL2.out HBK.out.all (by omega)).mono ?_
        rintro e w1 ⟨rfl, rfl⟩
        rw [HBK.out.sum]
        go_wp2_with fail
        go_ret
        exact ⟨ret_b (by first | rfl | (simp; done) | (simp; omega)), (Mor.below ((Mor.more (Mor.alloc hw.out.1))))⟩
  · have HD := Lib.hid (fun w (h : Ri w A vs) => by_no a A len cap vs w h HLEN.out (by have := HMX.out; omega) hc)
    have hc2 : (byc a vs == 0) = false := by simpa using hc
    generalize byc a vs = c at *
    clear hc
    go_enter Try.func14, Try.ntmps14
    go_wp2_with fail
    refine (by_any 7 _ 2 2 [0, 3] _ (Ri.of_row (row_lit [0, 3] (by simp) rfl)) rfl beg_code).mono ?_
    rintro e w1 ⟨g0, rfl, ⟨bs0, k0, rfl⟩, hr⟩
    rw [beg] at hr
    have HR := Lib.hid hr
    clear hr
    go_wp2_with fail
    refine (equal_yes _ _ _ _ _ _ 2 [0, 7] _ (HR.out.alloc) (row_lit [0, 7] (by simp) rfl) rfl (by omega)).mono ?_
    rintro e w1 ⟨rfl, m0, rfl⟩
    clear HR
    go_wp2_with fail
    refine (HD.out _ (HRI.out.mor (by repeat (first | exact Mor.refl _ | apply Mor.alloc | apply Mor.more | apply Mor.drewN | apply Mor.drew)))).mono ?_
    rintro e w1 ⟨rfl, ⟨bs, k, rfl⟩⟩
    go_wp2_with fail
    go_ret
    exact ⟨ret_b (by first | rfl | (simp; done) | (simp; omega)), (Mor.below (by repeat (first | exact Mor.refl _ | apply Mor.alloc | apply Mor.more | apply Mor.drewN | apply Mor.drew)))⟩

end Go.Proofs.Ytphkckonnogjmaa.splitAlone
