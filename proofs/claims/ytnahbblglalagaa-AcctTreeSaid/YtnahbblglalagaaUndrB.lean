/- Slices of strings: the walks of slices.Equal, Index, Contains, IndexFunc, ContainsFunc, IsSorted, cmp.Less. -/
import Derived.Test.YtnahbblglalagaaUndrA
import Derived.BigRegion
namespace Go.Proofs.Ytnahbblglalagaa
open Go.ChangeShapes Go.WideShapes Go.ChangeAt Go.RowKit Go.PlainAid
set_option linter.unusedVariables false

def sx (xs : List ByteArray) (i : Nat) : ByteArray := xs.getD i ByteArray.empty
theorem sx_eq (xs : List ByteArray) (i : Nat) (h : i < xs.length) : sx xs i = xs[i] := by
  unfold sx; rw [List.getD_eq_getElem?_getD, List.getElem?_eq_getElem h]; rfl
theorem Rs.mor {w w' : World} {A : Option Addr} {xs : List ByteArray} (h : Rs w A xs) (hm : Mor w w') : Rs w' A xs := Rd.mor h hm
theorem Rs.at_ {w : World} {A : Option Addr} {xs : List ByteArray} (h : Rs w A xs) (i : Nat) (hi : i < xs.length) : ∃ x, A = some x ∧ x.block < w.heap.size ∧ w.cell? (x.add i) = some (.string (sx xs i)) := by
  rcases h with h | ⟨b, o, e, hb, hc⟩
  · rw [List.map_eq_nil_iff.1 h] at hi; simp at hi
  · refine ⟨_, e, hb, ?_⟩
    have := hc i (by rw [List.length_map]; exact hi)
    rw [List.getD_eq_getElem?_getD, List.getElem?_map, List.getElem?_eq_getElem hi] at this
    unfold Addr.add
    rw [sx_eq _ _ hi]
    by_cases h0 : i = 0
    · subst h0; rw [if_pos rfl]; simpa using this
    · rw [if_neg h0]; simpa using this

set_option maxHeartbeats 800000 in
theorem index_str (A : Option Addr) (n c : Nat) (xs : List ByteArray) (s : ByteArray) (w : World) (hr : Rs w A xs) (hn : xs.length = n) (hl : n ≤ 1000) :
    Calls Try.prog 33 #[.slice A n c, .string s] w fun e w' => (∃ r : Int, e = .returned (.int .i64 r) ∧ (0 ≤ r ↔ s ∈ xs)) ∧ Mor w w' := by
  have HR := Lib.hid hr
  have HN := Lib.hid hn
  clear hr hn
  go_enter Try.func33, Try.ntmps33
  go_wp2
  go_loopw [8] (fun i wr => ∃ k : Nat, k ≤ n ∧ i = .int .i64 k ∧ Hid (∀ j, j < k → sx xs j ≠ s) ∧ Hid (Mor w wr)) (fun i _ => n - (intOf i).toNat)
  case atStart => exact ⟨0, Nat.zero_le _, rfl, Lib.hid (fun j hj => absurd hj (by omega)), Lib.hid (Mor.refl _)⟩
  case round =>
    obtain ⟨k, hk, rfl, HA, HM⟩ := hrel
    by_cases hlt : k < n
    · have hki : (k : Int) < (n : Int) := by omega
      have hk0 : (0 : Int) ≤ (k : Int) := by omega
      have hkl : k < xs.length := by rw [HN.out]; exact hlt
      obtain ⟨x, hA, hxb, c1⟩ := (HR.out.mor HM.out).at_ k hkl
      subst hA
      by_cases hp : sx xs k = s
      · have HIn := Lib.hid (show s ∈ xs by rw [← hp, sx_eq _ _ hkl]; exact List.getElem_mem hkl)
        rw [hp] at c1
        clear hp
        go_wp2
        go_ret
        exact ⟨⟨k, rfl, ⟨fun _ => HIn.out, fun _ => hk0⟩⟩, HM.out⟩
      · have HG := Lib.hid (show ∀ j, j < k + 1 → sx xs j ≠ s from fun j hj => by
          by_cases e : j = k
          · subst e; exact hp
          · exact HA.out j (by omega))
        have hcb : (s.toList == (sx xs k).toList) = false := by rw [str_eq, decide_eq_false (fun e => hp e.symm)]
        generalize sx xs k = t at *
        clear hp
        go_wp2
        go_roundw
        case rel => exact ⟨k + 1, by omega, by go_num, HG, HM⟩
        case measure => simp [intOf]; omega
    · obtain rfl : k = n := by omega
      go_wp2
      go_ret
      refine ⟨⟨-1, rfl, ⟨fun h => absurd h (by omega), fun h => ?_⟩⟩, HM.out⟩
      obtain ⟨j, hj, e⟩ := List.mem_iff_getElem.1 h
      exact absurd ((sx_eq _ _ hj).trans e) (HA.out j (by rw [← HN.out]; exact hj))
def memB (s : ByteArray) (xs : List ByteArray) : Bool := xs.any fun t => decide (t = s)
theorem memB_iff (s : ByteArray) (xs : List ByteArray) : memB s xs = true ↔ s ∈ xs := by
  unfold memB
  rw [List.any_eq_true]
  constructor
  · rintro ⟨x, hx, h⟩
    rw [← of_decide_eq_true h]; exact hx
  · intro h; exact ⟨s, h, by simp⟩
set_option maxHeartbeats 800000 in
theorem contains_str (A : Option Addr) (n c : Nat) (xs : List ByteArray) (s : ByteArray) (w : World) (hr : Rs w A xs) (hn : xs.length = n) (hl : n ≤ 1000) :
    Calls Try.prog 21 #[.slice A n c, .string s] w fun e w' => e = .returned (.bool (memB s xs)) ∧ Mor w w' := by
  have HI := Lib.hid (index_str A n c xs s w hr hn hl)
  clear hr hn
  go_enter Try.func21, Try.ntmps21
  go_wp2_with fail
  refine HI.out.mono ?_
  rintro e w1 ⟨⟨r, rfl, hr⟩, hm⟩
  have HM := Lib.hid hm
  have HQ := Lib.hid hr
  clear hm hr HI
  go_wp2_with fail
  go_ret
  refine ⟨?_, HM.out⟩
  have h : decide (0 ≤ r) = memB s xs := by
    cases hb : memB s xs
    · exact decide_eq_false fun h0 => by have := (memB_iff s xs).2 (HQ.out.1 h0); rw [hb] at this; cases this
    · exact decide_eq_true (HQ.out.2 ((memB_iff s xs).1 hb))
  simp [h]
set_option maxHeartbeats 800000 in
theorem less_str (s t : ByteArray) (w : World) : Calls Try.prog 34 #[.string s, .string t] w fun e w' => e = .returned (.bool (ltB s t)) ∧ w = w' := by
  have HNan := Lib.hid (fun (s : ByteArray) w => show Calls Try.prog 38 #[.string s] w fun e w' => e = .returned (.bool false) ∧ w = w' by
    go_enter Try.func38, Try.ntmps38
    go_wp2
    go_ret
    exact ⟨rfl, rfl⟩)
  go_enter Try.func34, Try.ntmps34
  go_wp2_with (go_at_call 38; (with_reducible refine (HNan.out _ _).mono ?_); rintro e w5 ⟨rfl, rfl⟩)
  go_ret
  exact ⟨rfl, rfl⟩
set_option maxHeartbeats 800000 in
theorem sorted_str (A : Option Addr) (n c : Nat) (xs : List ByteArray) (w : World) (hr : Rs w A xs) (hn : xs.length = n) (hl : n ≤ 1000) (hs : xs.Pairwise fun a b => ltB a b = true) :
    Calls Try.prog 22 #[.slice A n c] w fun e w' => e = .returned (.bool true) ∧ Mor w w' := by
  have HR := Lib.hid hr
  have HN := Lib.hid hn
  have HS := Lib.hid hs
  clear hr hn hs
  go_enter Try.func22, Try.ntmps22
  go_wp2
  go_loopw [3] (fun i wr => ∃ k : Int, -1 ≤ k ∧ k < n ∧ i = .int .i64 k ∧ Hid (Mor w wr)) (fun i _ => (intOf i).toNat)
  case atStart => exact ⟨(n : Int) - 1, by omega, by omega, by go_num, Lib.hid (Mor.refl _)⟩
  case round =>
    obtain ⟨k, hk1, hk, rfl, HM⟩ := hrel
    by_cases hlt : 0 < k
    · obtain ⟨p, rfl⟩ : ∃ p : Nat, k = (p : Int) + 1 := ⟨(k - 1).toNat, by omega⟩
      have hpn : p + 1 < n := by omega
      obtain ⟨x, hA, hxb, c1⟩ := (HR.out.mor HM.out).at_ (p + 1) (by rw [HN.out]; exact hpn)
      obtain ⟨x', hA', hxb', c0⟩ := (HR.out.mor HM.out).at_ p (by rw [HN.out]; omega)
      subst hA
      injection hA' with hA'
      subst hA'
      have hlt' : ltB (sx xs (p + 1)) (sx xs p) = false := by
        have h1 : p < xs.length := by rw [HN.out]; omega
        have h2 : p + 1 < xs.length := by rw [HN.out]; exact hpn
        rw [sx_eq _ _ h1, sx_eq _ _ h2]
        exact ltB_asymm ((List.pairwise_iff_getElem.1 HS.out) p (p + 1) h1 h2 (by omega))
      have HLs := Lib.hid (fun w' => less_str (sx xs (p + 1)) (sx xs p) w')
      rw [hlt'] at HLs
      generalize sx xs (p + 1) = s1 at *
      generalize sx xs p = s0 at *
      obtain ⟨q, hq⟩ : ∃ q : Nat, q = p + 1 := ⟨_, rfl⟩
      rw [← hq] at c1
      have hqI : (p : Int) + 1 = (q : Int) := by omega
      have hpI : (q : Int) - 1 = (p : Int) := by omega
      have i1 : (0 : Int) ≤ (q : Int) := by omega
      have i2 : (q : Int) < (n : Int) := by omega
      have i3 : (0 : Int) ≤ (p : Int) := by omega
      have i4 : (p : Int) < (n : Int) := by omega
      have i5 : (0 : Int) < (q : Int) := by omega
      have hwp : IntKind.i64.wrap (p : Int) = (p : Int) := IntWalk.i64_in _ (by omega)
      rw [hqI]
      clear hqI hq hlt hk hk1 hlt'
      go_wp2
      go_quiet ((go_at_call 34; (with_reducible exact quiet_eq (HLs.out _))))
      go_wp2_with fail
      go_roundw
      case rel => exact ⟨p, by omega, by omega, by go_num, Lib.hid (HM.out.drewN)⟩
      case measure => simp [intOf]; omega
    · go_wp2
      go_ret
      exact ⟨rfl, HM.out⟩

set_option maxHeartbeats 800000 in
theorem indexf_none (g : Nat) (cb : Array Value) (A : Option Addr) (n c : Nat) (xs : List ByteArray) (w : World) (eg : ∀ args w, (callFunc g args).run Try.prog w = .ok (.enter g args) w) (hr : Rs w A xs) (hn : xs.length = n) (hl : n ≤ 1000)
    (hf : ∀ i w', i < n → Mor w w' → Calls Try.prog g (#[.string (sx xs i)] ++ cb) w' fun e w'' => e = .returned (.bool false) ∧ Mor w' w'') :
    Calls Try.prog 32 #[.slice A n c, .func (.func g) #[] cb] w fun e w' => e = .returned (.int .i64 (-1)) ∧ Mor w w' := by
  have HF := Lib.hid hf
  have HR := Lib.hid hr
  have HN := Lib.hid hn
  clear hf hr hn
  go_enter Try.func32, Try.ntmps32
  go_wp2
  go_loopw [8] (fun i wr => ∃ k : Nat, k ≤ n ∧ i = .int .i64 k ∧ Hid (Mor w wr)) (fun i _ => n - (intOf i).toNat)
  case atStart => exact ⟨0, Nat.zero_le _, rfl, Lib.hid (Mor.refl _)⟩
  case round =>
    obtain ⟨k, hk, rfl, HM⟩ := hrel
    by_cases hlt : k < n
    · have hki : (k : Int) < (n : Int) := by omega
      have hk0 : (0 : Int) ≤ (k : Int) := by omega
      obtain ⟨x, hA, hxb, c1⟩ := (HR.out.mor HM.out).at_ k (by rw [HN.out]; exact hlt)
      subst hA
      have hc := HF.out k wr hlt HM.out
      generalize sx xs k = s at *
      go_wp2_with (go_at_fn g; refine hc.mono ?_; rintro e w' ⟨rfl, hmw⟩)
      have HM' := Lib.hid (Mor.trans' HM.out hmw)
      clear hmw
      go_roundw
      case rel => exact ⟨k + 1, by omega, by go_num, HM'⟩
      case measure => simp [intOf]; omega
    · obtain rfl : k = n := by omega
      go_wp2
      go_ret
      exact ⟨rfl, HM.out⟩
set_option maxHeartbeats 800000 in
theorem containsf_none (g : Nat) (cb : Array Value) (A : Option Addr) (n c : Nat) (xs : List ByteArray) (w : World) (eg : ∀ args w, (callFunc g args).run Try.prog w = .ok (.enter g args) w) (hr : Rs w A xs) (hn : xs.length = n) (hl : n ≤ 1000)
    (hf : ∀ i w', i < n → Mor w w' → Calls Try.prog g (#[.string (sx xs i)] ++ cb) w' fun e w'' => e = .returned (.bool false) ∧ Mor w' w'') :
    Calls Try.prog 19 #[.slice A n c, .func (.func g) #[] cb] w fun e w' => e = .returned (.bool false) ∧ Mor w w' := by
  have HI := Lib.hid (indexf_none g cb A n c xs w eg hr hn hl hf)
  clear hr hn hf
  go_enter Try.func19, Try.ntmps19
  go_wp2_with fail
  refine HI.out.mono ?_
  rintro e w1 ⟨rfl, hm⟩
  have HM := Lib.hid hm
  clear hm HI
  go_wp2_with fail
  go_ret
  exact ⟨rfl, HM.out⟩
set_option maxHeartbeats 800000 in
theorem equal_one (A B : Option Addr) (c c' : Nat) (s : ByteArray) (w : World) (hr : Rs w A [s]) (hr' : Rs w B [s]) :
    Calls Try.prog 18 #[.slice A 1 c, .slice B 1 c'] w fun e w' => e = .returned (.bool true) ∧ Mor w w' := by
  obtain ⟨x, hA, hxb, d0⟩ := hr.at_ 0 (by simp)
  obtain ⟨y, hB, hyb, e0⟩ := hr'.at_ 0 (by simp)
  subst hA hB
  rw [show sx [s] 0 = s from rfl] at d0 e0
  simp [Addr.add] at d0 e0
  clear hr hr'
  go_enter Try.func18, Try.ntmps18
  go_wp2
  refine wp_loop_rounds 2 ?_
  rw [rounds_succ]
  go_wp2
  go_quiet (fail)
  go_wp2
  rw [rounds_succ]
  go_wp2
  go_ret
  exact ⟨rfl, by repeat (first | exact Mor.refl _ | apply Mor.alloc | apply Mor.more | apply Mor.drewN | apply Mor.drew)⟩

end Go.Proofs.Ytnahbblglalagaa
