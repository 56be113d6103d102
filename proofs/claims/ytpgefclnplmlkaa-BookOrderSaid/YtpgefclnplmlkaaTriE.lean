/- The walk of slices.BinarySearchFunc at accounts, and the closures that talkeep.TrialAdds hands it. -/
import Derived.Test.YtpgefclnplmlkaaBookB
import Derived.Deep.RegionHeld3
import Derived.Deep.LoopGhost
import Derived.Shelf.Abstract
import Derived.BigQuiet
import Derived.Handy
namespace Go.Proofs.Ytpgefclnplmlkaa
open Go.ChangeShapes Go.WideShapes Go.ChangeAt Go.RowKit Go.PlainAid
set_option linter.unusedVariables false

def cmpS (s t : ByteArray) : Int := Lib.compareBytes s.data.toList t.data.toList
theorem cmpS_lt (s t : ByteArray) : cmpS s t < 0 ↔ ltB s t = true := by
  unfold cmpS
  rw [ltB_iff, ByteArray.toList_eq, ByteArray.toList_eq, (cmpL_lt _ _).1]
set_option maxHeartbeats 400000 in
theorem clo_ten (s t : ByteArray) (v : Int) (w : World) :
    Calls Try.prog 34 #[.agg #[.string s, .int .i64 v], .string t] w fun e w' => e = .returned (.int .i64 (cmpS s t)) ∧ Mor w w' := by
  have HC := Lib.hid (fun w => show Calls Try.prog 35 #[.string s, .string t] w fun e w' => e = .returned (.int .i64 (cmpS s t)) ∧ w = w' from strcmp_any s t w)
  generalize cmpS s t = r at *
  go_enter Try.func34, Try.ntmps34
  go_wp2_with fail
  refine (HC.out _).mono ?_
  rintro e w1 ⟨rfl, rfl⟩
  go_wp2_with fail
  go_ret
  exact ⟨rfl, (Mor.refl _).alloc⟩
set_option maxHeartbeats 400000 in
theorem clo_fif (s t : ByteArray) (v : Int) (w : World) :
    Calls Try.prog 36 #[.agg #[.string s, .int .i64 v], .string t] w fun e w' => e = .returned (.int .i64 (cmpS s t)) ∧ Mor w w' := by
  have HC := Lib.hid (fun w => show Calls Try.prog 35 #[.string s, .string t] w fun e w' => e = .returned (.int .i64 (cmpS s t)) ∧ w = w' from strcmp_any s t w)
  generalize cmpS s t = r at *
  go_enter Try.func36, Try.ntmps36
  go_wp2_with fail
  refine (HC.out _).mono ?_
  rintro e w1 ⟨rfl, rfl⟩
  go_wp2_with fail
  go_ret
  exact ⟨rfl, (Mor.refl _).alloc⟩
theorem acs_mono {ac : List Ln} (hs : ac.Pairwise fun a b => ltB a.1 b.1 = true) {i j : Nat} (hij : i ≤ j) (hj : j < ac.length) {t : ByteArray} (h : ltB (cd ac j) t = true) : ltB (cd ac i) t = true := by
  by_cases e : i = j
  · subst e; exact h
  · rw [(cd_at ac j hj).1] at h
    rw [(cd_at ac i (by omega)).1]
    exact ltB_trans ((List.pairwise_iff_getElem.1 hs) i j (by omega) hj (by omega)) h

def BsAc (w : World) (ac : List Ln) (n : Nat) (t : ByteArray) (e : Ending) (w' : World) : Prop := ∃ (f : Bool) (k : Nat), e = .returned (.tuple #[.int .i64 k, .bool f]) ∧ (k ≤ n ∧ (∀ i, i < k → ltB (cd ac i) t = true) ∧ (∀ i, k ≤ i → i < n → ¬ ltB (cd ac i) t = true)) ∧ Mor w w'
set_option maxRecDepth 100000 in
set_option maxHeartbeats 3200000 in
theorem bsearch_ac (cl : Nat) (eg : ∀ args w, (callFunc cl args).run Try.prog w = .ok (.enter cl args) w) (X : Option Addr) (n c : Nat) (ac : List Ln) (t : ByteArray) (w : World) (hr : Si w X ac) (hn : ac.length = n) (hl : n ≤ 1000) (hs : ac.Pairwise fun a b => ltB a.1 b.1 = true)
    (hcl : ∀ s v w', Calls Try.prog cl #[.agg #[.string s, .int .i64 v], .string t] w' fun e w'' => e = .returned (.int .i64 (cmpS s t)) ∧ Mor w' w'') :
    Calls Try.prog 33 #[.slice X n c, .string t, .func (.func cl) #[] #[]] w (BsAc w ac n t) := by
  have HR := Lib.hid hr
  have HN := Lib.hid hn
  have HCm := Lib.hid hcl
  have HLt := Lib.hid (fun i => cmpS_lt (cd ac i) t)
  have HMo := Lib.hid (fun i j (hij : i ≤ j) (hj : j < n) (h : ltB (cd ac j) t = true) => acs_mono hs hij (by rw [hn]; exact hj) h)
  clear hr hn hs hcl
  go_enter Try.func33, Try.ntmps33
  go_wp2_with fail
  go_loopg [9, 10] n (fun kx s9 s10 wr => ∃ (lo hi : Nat), s9 = .int .i64 lo ∧ s10 = .int .i64 hi ∧ lo ≤ hi ∧ hi ≤ n ∧ hi - lo ≤ kx ∧ Hid (Mor w wr) ∧ Hid ((∀ i, i < lo → ltB (cd ac i) t = true) ∧ (∀ i, hi ≤ i → i < n → ¬ ltB (cd ac i) t = true)))
  case atStart => exact ⟨0, n, rfl, rfl, Nat.zero_le _, Nat.le_refl _, by omega, Lib.hid (Mor.refl _), Lib.hid ⟨fun i hi => absurd hi (Nat.not_lt_zero _), fun i h1 h2 => absurd h1 (by omega)⟩⟩
  case round =>
    obtain ⟨lo, hi, rfl, rfl, hlh, hin, hg, HMr, I⟩ := hrel
    by_cases hlt : lo < hi
    · obtain ⟨h, hh⟩ : ∃ h : Nat, h = (lo + hi) / 2 := ⟨_, rfl⟩
      have hm1 : ((lo : Int) + (hi : Int)) / 2 = (h : Int) := by omega
      have h1 : lo ≤ h := by omega
      have h2 : h < hi := by omega
      have hhi : (0 : Int) ≤ (h : Int) := by omega
      have hhn : (h : Int) < (n : Int) := by omega
      obtain ⟨x', hX, hxb, d0, d1⟩ := (HR.out.mor HMr.out).at_ h (by rw [HN.out]; omega)
      subst hX
      have HCm3 := Lib.hid (fun w' => HCm.out (cd ac h) (am ac h) w')
      have HL3 := Lib.hid (HLt.out h)
      have HKp := Lib.hid (fun w' (h' : Mor wr w') => show (w'.cell? (x'.add (h * 2)) = some (.string (cd ac h)) ∧ w'.cell? ⟨(x'.add (h * 2)).block, (x'.add (h * 2)).off + 1, none⟩ = some (.int .i64 (am ac h))) from
        ⟨(h'.below.cell (p := x'.add (h * 2)) (by rw [addb]; exact hxb)).trans d0, (h'.below.cell (p := ⟨(x'.add (h * 2)).block, (x'.add (h * 2)).off + 1, none⟩) (by rw [addb]; exact hxb)).trans d1⟩)
      have HLo := Lib.hid (fun (he : ltB (cd ac h) t = true) i (hi' : i < h + 1) => HMo.out i h (by omega) (by omega) he)
      have HHi := Lib.hid (fun (he : ¬ ltB (cd ac h) t = true) i (hi' : h ≤ i) (hin' : i < n) => fun h' => he (HMo.out h i hi' hin' h'))
      generalize hcm : cmpS (cd ac h) t = cm at *
      generalize cd ac h = ky' at *
      generalize am ac h = ma' at *
      have HH := Lib.hid hh
      clear hh hcm
      by_cases hc : cm < 0
      · have HA := Lib.hid (HLo.out (HL3.out.1 hc))
        go_wp2_with (first | (go_at_fn cl; (with_reducible refine (HCm3.out _).mono ?_); rintro e w7 ⟨rfl, hm7⟩))
        have HMn := Lib.hid (HMr.out.trans' hm7)
        go_roundg (hi - (h + 1))
        case measure => have := HH.out; omega
        case rel => exact ⟨h + 1, hi, by go_num, rfl, by omega, hin, Nat.le_refl _, HMn, Lib.hid ⟨HA.out, I.out.2⟩⟩
      · have HA := Lib.hid (HHi.out (fun he => hc (HL3.out.2 he)))
        go_wp2_with (first | (go_at_fn cl; (with_reducible refine (HCm3.out _).mono ?_); rintro e w7 ⟨rfl, hm7⟩))
        have HMn := Lib.hid (HMr.out.trans' hm7)
        go_roundg (h - lo)
        case measure => have := HH.out; omega
        case rel => exact ⟨lo, h, rfl, rfl, by omega, by omega, Nat.le_refl _, HMn, Lib.hid ⟨I.out.1, HA.out⟩⟩
    · obtain rfl : lo = hi := by omega
      by_cases hln : lo < n
      · have hhi : (0 : Int) ≤ (lo : Int) := by omega
        have hhn : (lo : Int) < (n : Int) := by omega
        have hhb : decide ((lo : Int) < (n : Int)) = true := by simpa using hhn
        obtain ⟨x', hX, hxb, d0, d1⟩ := (HR.out.mor HMr.out).at_ lo (by rw [HN.out]; omega)
        subst hX
        have HCm3 := Lib.hid (fun w' => HCm.out (cd ac lo) (am ac lo) w')
        have HKp := Lib.hid (fun w' (h' : Mor wr w') => show (w'.cell? (x'.add (lo * 2)) = some (.string (cd ac lo)) ∧ w'.cell? ⟨(x'.add (lo * 2)).block, (x'.add (lo * 2)).off + 1, none⟩ = some (.int .i64 (am ac lo))) from
          ⟨(h'.below.cell (p := x'.add (lo * 2)) (by rw [addb]; exact hxb)).trans d0, (h'.below.cell (p := ⟨(x'.add (lo * 2)).block, (x'.add (lo * 2)).off + 1, none⟩) (by rw [addb]; exact hxb)).trans d1⟩)
        generalize hcm : cmpS (cd ac lo) t = cm at *
        generalize cd ac lo = ky' at *
        generalize am ac lo = ma' at *
        clear hcm
        go_wp2_with (first | (go_at_fn cl; (with_reducible refine (HCm3.out _).mono ?_); rintro e w7 ⟨rfl, hm7⟩))
        have HMn := Lib.hid (HMr.out.trans' hm7)
        go_returns
        exact ⟨_, lo, rfl, ⟨hin, I.out⟩, HMn.out⟩
      · have hhn : ¬ (lo : Int) < (n : Int) := by omega
        have hhb : decide ((lo : Int) < (n : Int)) = false := by simpa using hhn
        go_wp2_with fail
        go_returns
        exact ⟨_, lo, rfl, ⟨hin, I.out⟩, HMr.out⟩

end Go.Proofs.Ytpgefclnplmlkaa
