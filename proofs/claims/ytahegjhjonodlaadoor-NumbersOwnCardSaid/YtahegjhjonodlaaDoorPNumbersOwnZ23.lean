/- The walk of earn.Months. -/
import Derived.Test.YtahegjhjonodlaaDoorPNumbersOwnZ1
import Derived.Test.YtahegjhjonodlaaDoorPNumbersOwnZ2
import Derived.Test.YtahegjhjonodlaaDoorPNumbersOwnZ3
import Derived.Test.YtahegjhjonodlaaDoorPNumbersOwnZ4
import Derived.Test.YtahegjhjonodlaaDoorPNumbersOwnZ6
import Derived.Test.YtahegjhjonodlaaDoorPNumbersOwnZ7
import Derived.Test.YtahegjhjonodlaaDoorPNumbersOwnZ21
import Derived.Test.YtahegjhjonodlaaDoorPNumbersOwnZ22
import Derived.Test.YtahegjhjonodlaaDoorRows
import Derived.BigQuiet
import Derived.Deep.OwnRows
import Derived.Deep.QuietTactic
import Derived.Deep.RegionWith
import Derived.Handy
import Derived.Lib.Hide
import Derived.Lib.LaidTab
import Derived.OpenShut
import Derived.Outline
import Derived.OwnWalk
import Derived.ProofKit
import Derived.RegionTactic
import Derived.WalkKit
namespace Go.Proofs.YtahegjhjonodlaaDoor
open Go.ChangeShapes Go.WideShapes Go.ChangeAt Go.RowKit
set_option linter.unusedVariables false
set_option maxRecDepth 100000

theorem own_morE {w w' : World} {B : Nat} {T : TypeId} {s : Nat} {v : Value} {n : Nat} {xs : List Value} (h : w.ownsRow B T s v n xs) (hm : Mor w w') : w'.ownsRow B T s v n xs := by
  obtain ⟨hl, h | ⟨g, cap, cur, hv, hg, hb, hr⟩⟩ := h
  · exact ⟨hl, .inl h⟩
  · have hlt : g < w.heap.size := by
      rcases Nat.lt_or_ge g w.heap.size with hs | hs
      · exact hs
      · rw [Array.getElem?_eq_none (by omega)] at hb; simp at hb
    exact ⟨hl, .inr ⟨g, cap, cur, hv, hg, (hm.below.block g hlt).trans hb, hr⟩⟩

/-- the end of the month i behind that of the day f -/
noncomputable def em (f : Int) (i : Nat) : Int := fk (dk f + i + 1) - 1
/-- what is earned by the end of the last of the first j months -/
noncomputable def wv (a f t : Int) (j : Nat) : Int := if j = 0 then 0 else ev a f t (em f (j - 1))
/-- the parts of the first j months -/
noncomputable def lms (a f t : Int) : Nat → List Int
  | 0 => []
  | j + 1 => lms a f t j ++ [ev a f t (em f j) - wv a f t j]
theorem wv_bd (a f t : Int) (j : Nat) (h : f ≤ t) (h1 : -1000000000000 ≤ a) (h2 : a ≤ 1000000000000) : -1000000000000 ≤ wv a f t j ∧ wv a f t j ≤ 1000000000000 := by
  unfold wv; split
  · omega
  · exact ev_bd _ _ _ _ h h1 h2
/-- the day with which the month j begins -/
noncomputable def ds (f : Int) (j : Nat) : Int := if j = 0 then f else fk (dk f + j)
theorem ds_facts {f t : Int} (j : Nat) (h0 : 0 ≤ f) (h9 : t ≤ 292193) (h : f ≤ t) (hj : dk f + j ≤ dk t) :
    0 ≤ ds f j ∧ ds f j ≤ t ∧ la (ds f j) = em f j ∧ em f j ≤ 292193 ∧ 0 ≤ em f j ∧ em f j + 1 = ds f (j + 1) := by
  have hf := isD_of h0 (show f ≤ 292193 by omega); have ht := isD_of (n := t) (by omega) h9
  have e1 : em f j + 1 = ds f (j + 1) := by unfold em ds; rw [if_neg (by omega), show ((j + 1 : Nat) : Int) = j + 1 by omega, ← Int.add_assoc]; omega
  have k0 := hf.k0; have k9 := ht.k1
  have hb : 0 ≤ em f j ∧ em f j ≤ 292193 := by
    unfold em
    have a := fk_mono (show 0 ≤ dk f + j + 1 by omega); have b := fk_mono (show dk f + j + 1 ≤ 9600 by omega)
    rw [fk_zero] at a; rw [fk_top] at b
    omega
  refine ⟨?_, ?_, ?_, hb.2, hb.1, e1⟩
  · unfold ds; split
    · exact h0
    · have a := fk_mono (show 0 ≤ dk f + j by omega); rw [fk_zero] at a; omega
  · unfold ds; split
    · exact h
    · have a := fk_mono hj
      have := ht.eq; have := ht.d0; omega
  · have hd : dk (ds f j) = dk f + j := by
      unfold ds; split
      · rename_i e; subst e; simp
      · have hm := isD_mk (k := dk f + j) (D := 1) (by omega) (by omega) (by omega) (by have := lk_bd (dk f + j); omega)
        rw [show fk (dk f + j) + 1 - 1 = fk (dk f + j) by omega] at hm
        exact hm.dk
    unfold la em
    rw [hd, fk_succ]
theorem ds_end {f t : Int} (j : Nat) (h0 : 0 ≤ f) (h9 : t ≤ 292193) (h : f ≤ t) (hj : dk f + j = dk t + 1) : t < ds f j ∧ ds f j ≤ 292194 := by
  have hf := isD_of h0 (show f ≤ 292193 by omega); have ht := isD_of (n := t) (by omega) h9
  have hd := le_dk h0 h9 h
  have k9 := ht.k1
  unfold ds
  rw [if_neg (by omega), hj, fk_succ]
  have := ht.eq; have := ht.d1
  have b := fk_lt (show dk t < 9600 by omega)
  rw [fk_top] at b
  omega

set_option maxHeartbeats 400000 in
theorem elook_yes (a f t : Int) (w : World) (h1 : -1000000000000 ≤ a) (h2 : a ≤ 1000000000000) (h0 : 0 ≤ f) (h9 : t ≤ 292193) (h : f ≤ t) :
    Calls Tryd.prog 60 #[.int .i64 a, .int .i64 f, .int .i64 t] w fun e w' => e = .returned (.int .i64 0) ∧ w = w' := by
  have f9 : f ≤ 292193 := by omega
  have t0 : 0 ≤ t := by omega
  go_enter Tryd.func60, Tryd.ntmps60
  go_wp2_with (first | (go_at_call 50; refine (money_yes _ _ h1 h2).mono ?_; rintro e w1 ⟨rfl, rfl⟩) | (go_at_call 74; (with_reducible refine (is_yes f _ h0 f9).mono ?_); rintro e w1 ⟨rfl, rfl⟩) | (go_at_call 74; (with_reducible refine (is_yes t _ t0 h9).mono ?_); rintro e w1 ⟨rfl, rfl⟩))
  go_ret
  exact ⟨rfl, rfl⟩

/-- what earn.Months hands back -/
def MonthsPost (w : World) (a f t : Int) (n : Nat) (e : Ending) (w' : World) : Prop :=
  (n ≤ 40 ∧ ∃ v, e = .returned (.tuple #[v, .int .i64 0]) ∧ w'.ownsRow w.heap.size 3 1 v n ((lms a f t n).map (Value.int .i64)) ∧ Mor w w') ∨
  (40 < n ∧ e = .returned (.tuple #[.slice none 0 0, .int .i64 2]) ∧ Mor w w')

set_option maxRecDepth 100000 in
set_option maxHeartbeats 3200000 in
theorem emonths_any (a f t : Int) (n : Nat) (w : World) (h1 : -1000000000000 ≤ a) (h2 : a ≤ 1000000000000) (h0 : 0 ≤ f) (h9 : t ≤ 292193) (h : f ≤ t) (hn : dk f + n = dk t + 1) (ht : Tab w) :
    Calls Tryd.prog 16 #[.int .i64 a, .int .i64 f, .int .i64 t] w (MonthsPost w a f t n) := by
  obtain ⟨i0, hi, hz0, hz1, hz2⟩ := info_parts info_int'
  have HT := Lib.hid ht
  clear ht
  have f9 : f ≤ 292193 := by omega
  have t0 : 0 ≤ t := by omega
  have HD := Lib.hid (fun j (hj : j < n) => ds_facts (t := t) j h0 h9 h (by omega))
  have HE := Lib.hid (ds_end n h0 h9 h hn)
  have HN := Lib.hid (show 0 < n by have := le_dk h0 h9 h; omega)
  have HB := Lib.hid (fun A w (h6 : 0 ≤ A) (h7 : A ≤ 292193) => ebetween_any a f t A w h1 h2 h0 h h9 h6 h7)
  have HL := Lib.hid (fun d w (h6 : 0 ≤ d) (h7 : d ≤ 292193) hT => last_yes d w h6 h7 hT)
  have HV := Lib.hid (fun j => wv_bd a f t j h h1 h2)
  have HV2 := Lib.hid (fun A => ev_bd a f t A h h1 h2)
  clear hn
  go_enter Tryd.func16, Tryd.ntmps16
  go_wp2_with ((go_at_call 60; (with_reducible refine (elook_yes a f t _ h1 h2 h0 h9 h).mono ?_); rintro e w1 ⟨rfl, rfl⟩))
  go_loopw [9, 10, 11] (fun v s d wr => ∃ j : Nat, j ≤ n ∧ j ≤ 40 ∧ s = .int .i64 (wv a f t j) ∧ d = .int .i64 (ds f j) ∧ Hid (wr.ownsRow w.heap.size 3 1 v j ((lms a f t j).map (Value.int .i64))) ∧ Hid (Below w.heap.size w wr)) (fun _ _ d _ => 300000 - (intOf d).toNat)
  case atStart => exact ⟨0, by omega, by omega, rfl, rfl, Lib.hid (World.ownsRow_nil _ _ _ _), Lib.hid (Below.refl _ _)⟩
  case round =>
    obtain ⟨j, hjn, hj40, rfl, rfl, HO, HX⟩ := hrel
    by_cases hlt : j < n
    · obtain ⟨d0, d1, d2, d3, d4, d5⟩ := HD.out j hlt
      have HS := Lib.hid (show lms a f t (j + 1) = lms a f t j ++ [ev a f t (em f j) - wv a f t j] from rfl)
      have HW := Lib.hid (show wv a f t (j + 1) = ev a f t (em f j) by unfold wv; rw [if_neg (by omega)]; rfl)
      have HLj := Lib.hid (fun w hT => HL.out (ds f j) w d0 (by omega) hT)
      rw [d2] at HLj
      have HBj := Lib.hid (fun w => HB.out (em f j) w d4 d3)
      have hd6 : ds f j ≤ em f j := by have := (la_facts d0 (show ds f j ≤ 292193 by omega)).1; rw [d2] at this; exact this
      have H5 := Lib.hid d5
      obtain ⟨v1, v2⟩ := HV.out j
      obtain ⟨v3, v4⟩ := HV2.out (em f j)
      obtain ⟨A, c, rfl, hc, -, -⟩ := own_shape HO.out
      have hj0 : (0 : Int) ≤ (j : Int) := by omega
      clear d2 d5
      generalize wv a f t j = W at *
      generalize em f j = E at *
      generalize ev a f t E = V at *
      generalize ds f j = D at *
      by_cases h40 : j = 40
      · subst h40
        have hn40 := Lib.hid (show 40 < n by omega)
        go_wp2_with ((go_at_call 61; (with_reducible refine (HLj.out _ (HT.out.below HX.out)).mono ?_); rintro e w1 ⟨rfl, bs, k, rfl⟩))
        go_returns
        exact .inr ⟨hn40.out, rfl, (Mor.of_below HX.out).more⟩
      · have h41 : ¬ ((j : Int) = 40) := by omega
        go_wp2_with fail
        refine (HLj.out _ (HT.out.below HX.out)).mono ?_
        rintro e w3 ⟨rfl, hm⟩
        have HO3 := Lib.hid (own_morE HO.out hm)
        have HX3 := Lib.hid (show Below w.heap.size w w3 from (Mor.trans (Mor.of_below HX.out) hm).below)
        clear hm HO HX
        go_wp2_with (first | (go_at_call 62; (with_reducible refine (HBj.out _).mono ?_); rintro e w1 ⟨rfl, m, rfl⟩) | (at_builtin; refine wpList_append_own _ rfl _ _ 22 rfl w.heap.size 3 i0 (.int .i64 0) 1 8 Tryd.underlying22 hi hz0 hz1 hz2 rfl (by decide) _ _ _ rfl (by exact own_drewN (HO3.out.alloc _)) ⟨w3.heap.size, 0, none⟩ 1 1 [.int .i64 (V - W)] rfl rfl ?_ ?_ ?_ ?_ ?_ ?_))
        · intro j u hj
          match j, hj with
          | 0, hj => simp at hj; subst hj; simp [Addr.add]
        · intro u hu; simp at hu; subst hu; rfl
        · unfold maxLen; omega
        · omega
        · have := HX3.out.size; simp; omega
        · intro v' w1 hown' hgrow _
          have HO' := Lib.hid hown'
          have HX' := Lib.hid (own_stepS HO3.out HX3.out hgrow)
          clear hown' hgrow
          go_wp2
          go_roundw
          case rel => exact ⟨j + 1, by omega, by omega, by rw [HW.out], by rw [← H5.out], Lib.hid (by rw [HS.out, List.map_append]; exact HO'.out), HX'⟩
          case measure => simp [intOf]; omega
    · have e : j = n := by omega
      subst e
      obtain ⟨e1, e2⟩ := HE.out
      generalize ds f j = D at *
      generalize hWg : wv a f t j = W at *
      clear hWg
      go_wp2
      go_returns
      exact .inl ⟨hj40, _, rfl, HO.out, Mor.of_below HX.out⟩

set_option maxHeartbeats 400000 in
theorem emonths_no (a f t : Int) (w : World) (h : a < -1000000000000 ∨ 1000000000000 < a) :
    Calls Tryd.prog 16 #[.int .i64 a, .int .i64 f, .int .i64 t] w fun e w' => e = .returned (.tuple #[.slice none 0 0, .int .i64 1]) ∧ ∃ k, w' = w.drewN k := by
  have H := Lib.hid h
  clear h
  go_enter Tryd.func16, Tryd.ntmps16
  go_wp2_with (first | (go_at_call 50; refine (money_no _ _ H.out).mono ?_; rintro e w1 ⟨rfl, rfl⟩) | go_in)
  go_returns
  exact ⟨rfl, 0, rfl⟩

end Go.Proofs.YtahegjhjonodlaaDoor
