/- The walks of slices.IndexFunc and slices.DeleteFunc at items. -/
import Derived.Test.YtahegjhjonodlaaDoorPItemsOwnZ1
import Derived.Test.YtahegjhjonodlaaDoorPItemsOwnZ3
import Derived.Test.YtahegjhjonodlaaDoorPItemsOwnZ4
import Derived.Test.YtahegjhjonodlaaDoorPItemsOwnZ5
import Derived.Test.YtahegjhjonodlaaDoorPItemsOwnZ6
import Derived.Test.YtahegjhjonodlaaDoorPItemsOwnZ7
import Derived.Test.YtahegjhjonodlaaDoorPItemsOwnZ13
import Derived.Test.YtahegjhjonodlaaDoorPItemsOwnZ14
import Derived.Test.YtahegjhjonodlaaDoorPItemsOwnZ15
import Derived.Test.YtahegjhjonodlaaDoorPItemsOwnZ16
import Derived.Test.YtahegjhjonodlaaDoorPItemsOwnZ17
import Derived.Test.YtahegjhjonodlaaDoorRows
import Derived.BigQuiet
import Derived.DataElems
import Derived.Deep.DeepCutAuto
import Derived.Deep.OwnRows
import Derived.Deep.QuietTactic
import Derived.Deep.RegionHeld3
import Derived.Deep.RegionWith
import Derived.Deep.SlicePairs
import Derived.Handy
import Derived.Laws.IdiomCopy
import Derived.Lib.Hide
import Derived.OpenShut
import Derived.Outline
import Derived.OwnWalk
import Derived.ProofKit
import Derived.RegionTactic
import Derived.Shelf.Abstract
import Derived.WalkKit
import Derived.WalkSpells
namespace Go.Proofs.YtahegjhjonodlaaDoor.Sv
open Go.ChangeShapes Go.WideShapes Go.ChangeAt Go.RowKit Stb
set_option linter.unusedVariables false
set_option maxRecDepth 100000

/-- a closure that says yes or no, wherever the block g alone was turned -/
structure SaysD (w : World) (g c : Nat) (cb : Array Value) (D : Pr → Bool) : Prop where
  says : ∀ (w' : World), On g w w' → ∀ x, Calls Tryd.prog c (#[.agg #[.int .i64 x.1, .int .i64 x.2]] ++ cb) w' fun e w'' => e = .returned (.bool (D x)) ∧ Mor w' w''
theorem SaysD.on {w w1 : World} {g c : Nat} {cb : Array Value} {D : Pr → Bool} (h : SaysD w g c cb D) (ho : On g w w1) : SaysD w1 g c cb D :=
  ⟨fun w' h' x => h.says w' (ho.trans h') x⟩
/-- the first of which D is true -/
def IxPost (w : World) (D : Pr → Bool) (xs : List Pr) (e : Ending) (w' : World) : Prop :=
  Mor w w' ∧ ((e = .returned (.int .i64 (-1)) ∧ ∀ i, i < xs.length → D (ge xs i) = false) ∨ ∃ k : Nat, k < xs.length ∧ e = .returned (.int .i64 k) ∧ D (ge xs k) = true ∧ ∀ i, i < k → D (ge xs i) = false)

set_option maxHeartbeats 1600000 in
theorem ixf_any (g n cap c : Nat) (cb : Array Value) (D : Pr → Bool) (xs : List Pr) (w : World) (eg : ∀ args w, (callFunc c args).run Tryd.prog w = .ok (.enter c args) w) (hs : SaysD w g c cb D) (hd : Dat w g xs) (hN : xs.length = n) (hl : n ≤ 1000) :
    Calls Tryd.prog 87 #[.slice (some ⟨g, 0, none⟩) n cap, .func (.func c) #[] cb] w (IxPost w D xs) := by
  have HD := Lib.hid hd
  have HN := Lib.hid hN
  have HS := Lib.hid hs
  clear hd hN hs
  go_enter Tryd.func87, Tryd.ntmps87
  go_wp2
  go_loopw [8] (fun i wr => ∃ (k : Nat), k ≤ n ∧ i = .int .i64 k ∧ Hid (∀ i, i < k → D (ge xs i) = false) ∧ Hid (Mor w wr)) (fun i _ => n - (intOf i).toNat)
  case atStart => exact ⟨0, Nat.zero_le _, rfl, Lib.hid (fun i hi => absurd hi (Nat.not_lt_zero _)), Lib.hid (Mor.refl _)⟩
  case round =>
    obtain ⟨k, hk, rfl, HB, HM⟩ := hrel
    by_cases hlt : k < n
    · have hki : (k : Int) < (n : Int) := by omega
      have hk0 : (0 : Int) ≤ (k : Int) := by omega
      obtain ⟨c1, c2⟩ := (HD.out.mor HM.out).cell k (by rw [HN.out]; exact hlt)
      obtain ⟨f1, f2⟩ := (HD.out.mor HM.out).frozen k
      have HC := Lib.hid (HS.out.says wr (On.of_mor HM.out) (ge xs k))
      have HB0 := Lib.hid (fun h : D (ge xs k) = false => show ∀ i, i < k + 1 → D (ge xs i) = false from fun i hi => by
        by_cases e : i = k
        · subst e; exact h
        · exact HB.out i (by omega))
      have HB1 := Lib.hid (fun h : D (ge xs k) = true => show k < xs.length ∧ D (ge xs k) = true ∧ ∀ i, i < k → D (ge xs i) = false from ⟨by rw [HN.out]; exact hlt, h, HB.out⟩)
      obtain ⟨b, hb⟩ : ∃ b, b = D (ge xs k) := ⟨_, rfl⟩
      rw [← hb] at HC HB0
      have HB2 := Lib.hid (fun h : b = true => HB1.out (by rw [← hb]; exact h))
      clear hb HB1
      generalize ge xs k = u at HC c1 c2
      cases b with
      | true =>
        go_wp2_with (first | (go_at_fn c; (with_reducible refine HC.out.mono ?_); rintro e w1 ⟨rfl, bs, q, rfl⟩))
        go_ret
        exact ⟨HM.out.more, .inr ⟨k, (HB2.out (by simp)).1, rfl, (HB2.out (by simp)).2⟩⟩
      | false =>
        have HB3 := Lib.hid (HB0.out rfl)
        go_wp2_with (first | (go_at_fn c; (with_reducible refine HC.out.mono ?_); rintro e w1 ⟨rfl, bs, q, rfl⟩))
        go_roundw
        case rel => exact ⟨k + 1, by omega, by go_num, HB3, Lib.hid HM.out.more⟩
        case measure => simp [intOf]; omega
    · obtain rfl : k = n := by omega
      go_wp2
      go_ret
      exact ⟨HM.out, .inl ⟨rfl, fun i hi => HB.out i (by rw [← HN.out]; exact hi)⟩⟩

/-- those of the first j that stay -/
def kept (D : Pr → Bool) (xs : List Pr) (j : Nat) : List Pr := (xs.take j).filter (fun x => !D x)
theorem kept_succ (D : Pr → Bool) (xs : List Pr) (j : Nat) (h : j < xs.length) : kept D xs (j + 1) = kept D xs j ++ if D (ge xs j) = true then [] else [ge xs j] := by
  unfold kept
  have e : xs[j] = ge xs j := by have := ge_some h; rw [List.getElem?_eq_getElem h] at this; injection this
  rw [List.take_succ_eq_append_getElem h, List.filter_append, e]
  congr 1
  by_cases c : D (ge xs j) = true
  · rw [List.filter_cons_of_neg (by simp [c]), if_pos c]; rfl
  · rw [List.filter_cons_of_pos (by simpa using c), if_neg c]; rfl
structure Kp (D : Pr → Bool) (xs zs : List Pr) (i j : Nat) : Prop where
  len : zs.length = xs.length
  take : zs.take i = kept D xs j
  rest : ∀ k, j ≤ k → k < xs.length → ge zs k = ge xs k
  lt : i < j
theorem Kp.start {D : Pr → Bool} {xs : List Pr} {k : Nat} (hk : k < xs.length) (h : D (ge xs k) = true) (hb : ∀ i, i < k → D (ge xs i) = false) : Kp D xs xs k (k + 1) := by
  refine ⟨rfl, ?_, fun _ _ _ => rfl, by omega⟩
  rw [kept_succ _ _ _ hk, if_pos h, List.append_nil]
  unfold kept
  refine (List.filter_eq_self.2 fun x hx => ?_).symm
  obtain ⟨i, hi, rfl⟩ := List.getElem_of_mem hx
  rw [List.length_take] at hi
  have := hb i (by omega)
  have e := ge_some (xs := xs) (i := i) (by omega)
  rw [List.getElem?_eq_getElem (by omega)] at e
  injection e with e
  rw [List.getElem_take, e, this]; rfl
theorem Kp.skip {D : Pr → Bool} {xs zs : List Pr} {i j : Nat} (h : Kp D xs zs i j) (hj : j < xs.length) (hd : D (ge xs j) = true) : Kp D xs zs i (j + 1) :=
  ⟨h.len, by rw [h.take, kept_succ _ _ _ hj, if_pos hd, List.append_nil], fun k hk hl => h.rest k (by omega) hl, by have := h.lt; omega⟩
theorem Kp.keep {D : Pr → Bool} {xs zs : List Pr} {i j : Nat} (h : Kp D xs zs i j) (hj : j < xs.length) (hd : D (ge xs j) = false) : Kp D xs (zs.set i (ge xs j)) (i + 1) (j + 1) := by
  have hl := h.lt
  have hn := h.len
  refine ⟨by rw [List.length_set, h.len], ?_, fun k hk hk' => ?_, by omega⟩
  · rw [kept_succ _ _ _ hj, if_neg (by simp [hd]), ← h.take, List.take_succ_eq_append_getElem (by rw [List.length_set]; omega), List.getElem_set_self]
    congr 1
    apply List.ext_getElem?
    intro q
    rw [List.getElem?_take, List.getElem?_take, List.getElem?_set]
    split
    · rw [if_neg (by omega)]
    · rfl
  · rw [← h.rest k (by omega) hk']
    unfold ge
    rw [List.getD_eq_getElem?_getD, List.getElem?_set, if_neg (by omega), ← List.getD_eq_getElem?_getD]
theorem Kp.done {D : Pr → Bool} {xs zs : List Pr} {i : Nat} (h : Kp D xs zs i xs.length) : zs.take i = xs.filter (fun x => !D x) ∧ i = (xs.filter (fun x => !D x)).length ∧ i < xs.length := by
  have e : zs.take i = xs.filter (fun x => !D x) := by rw [h.take]; unfold kept; rw [List.take_length]
  have hl := h.lt
  refine ⟨e, ?_, hl⟩
  rw [← e, List.length_take, h.len]; omega
theorem kept_all {D : Pr → Bool} {xs : List Pr} (h : ∀ i, i < xs.length → D (ge xs i) = false) : xs.filter (fun x => !D x) = xs := by
  refine List.filter_eq_self.2 fun x hx => ?_
  obtain ⟨i, hi, rfl⟩ := List.getElem_of_mem hx
  have := h i hi
  have e := ge_some hi
  rw [List.getElem?_eq_getElem hi] at e
  injection e with e
  rw [e, this]; rfl

/-- those that stay, in place -/
def DfPost (w : World) (g cap : Nat) (D : Pr → Bool) (xs : List Pr) (e : Ending) (w' : World) : Prop :=
  e = .returned (.slice (some ⟨g, 0, none⟩) (xs.filter (fun x => !D x)).length cap) ∧ Dat w' g (xs.filter (fun x => !D x)) ∧ On g w w'

theorem zero_item (w : World) : (zeroValue 52).run Tryd.prog w = .ok (.agg #[.int .i64 0, .int .i64 0]) w := by
  simp [zeroValue]; rfl

set_option maxHeartbeats 3200000 in
theorem delf_any (g n cap c : Nat) (cb : Array Value) (D : Pr → Bool) (xs : List Pr) (w : World) (eg : ∀ args w, (callFunc c args).run Tryd.prog w = .ok (.enter c args) w) (hs : SaysD w g c cb D) (hd : Dat w g xs) (hN : xs.length = n) (hc : n ≤ cap) (hl : n ≤ 1000) :
    Calls Tryd.prog 72 #[.slice (some ⟨g, 0, none⟩) n cap, .func (.func c) #[] cb] w (DfPost w g cap D xs) := by
  have hI := ixf_any g n cap c cb D xs w eg hs hd hN hl
  have HD := Lib.hid hd
  have HN := Lib.hid hN
  have HS := Lib.hid hs
  clear hd hN hs
  by_cases hall : ∀ i, i < xs.length → D (ge xs i) = false
  · have HI := Lib.hid (hI.mono (R' := fun e w' => e = .returned (.int .i64 (-1)) ∧ Mor w w') (by
      rintro e w' ⟨hM, ⟨rfl, _⟩ | ⟨k, hk, rfl, ht, _⟩⟩
      · exact ⟨rfl, hM⟩
      · have := hall k hk; rw [ht] at this; cases this))
    clear hI
    go_enter Tryd.func72, Tryd.ntmps72
    go_wp2_with (first | (go_at_call 87; (with_reducible refine HI.out.mono ?_); rintro e w1 ⟨rfl, hM⟩))
    go_ret
    have e := kept_all hall
    exact ⟨by rw [e, HN.out] <;> rfl, by rw [e]; exact HD.out.mor hM, On.of_mor hM⟩
  · obtain ⟨k0, hk0, ht, hb⟩ : ∃ k, k < xs.length ∧ D (ge xs k) = true ∧ ∀ i, i < k → D (ge xs i) = false := by
      apply Classical.byContradiction
      intro hno
      apply hall
      intro i
      induction i using Nat.strongRecOn with
      | ind i ih =>
        intro hi
        cases hd : D (ge xs i) with
        | false => rfl
        | true => exact absurd ⟨i, hi, hd, fun j hj => ih j hj (by omega)⟩ hno
    have HI := Lib.hid (hI.mono (R' := fun e w' => e = .returned (.int .i64 k0) ∧ Mor w w') (by
      rintro e w' ⟨hM, ⟨rfl, hx⟩ | ⟨k, hk, rfl, ht', hb'⟩⟩
      · exact absurd hx hall
      · have : k = k0 := by
          rcases Nat.lt_trichotomy k k0 with h | h | h
          · have := hb k h; rw [ht'] at this; cases this
          · exact h
          · have := hb' k0 h; rw [ht] at this; cases this
        subst this
        exact ⟨rfl, hM⟩))
    have HK := Lib.hid (Kp.start hk0 ht hb)
    have hk0' : k0 < n := by rw [← HN.out]; exact hk0
    have hne : ((k0 : Int) == -1) = false := beq_eq_false_iff_ne.2 (by omega)
    clear hI ht hb hk0 hall
    go_enter Tryd.func72, Tryd.ntmps72
    go_wp2_with (first | (go_at_call 87; (with_reducible refine HI.out.mono ?_); rintro e w1 ⟨rfl, hM⟩))
    have HM := Lib.hid hM
    clear hM HI
    go_loopw [5, 6, 7] (fun vi vj _ wr => ∃ (i j : Nat) (zs : List Pr), vi = .int .i64 i ∧ vj = .int .i64 j ∧ i < j ∧ j ≤ n ∧ Hid (Kp D xs zs i j) ∧ Hid (Dat wr g zs) ∧ Hid (On g w wr)) (fun _ vj _ _ => n - (intOf vj).toNat)
    case atStart => exact ⟨k0, k0 + 1, xs, rfl, by go_num, by omega, by omega, HK, Lib.hid (HD.out.mor HM.out), Lib.hid (On.of_mor HM.out)⟩
    case round =>
      obtain ⟨i, j, zs, rfl, rfl, hij, hjn, HKp, HZ, HO⟩ := hrel
      by_cases hlt : j < n
      · have hki : (j : Int) < (n : Int) := by omega
        have hk0 : (0 : Int) ≤ (j : Int) := by omega
        have hii : (i : Int) < (n : Int) := by omega
        have hi0 : (0 : Int) ≤ (i : Int) := by omega
        have hzl : zs.length = n := by rw [HKp.out.len, HN.out]
        obtain ⟨c1, c2⟩ := HZ.out.cell j (by rw [hzl]; exact hlt)
        rw [HKp.out.rest j (Nat.le_refl _) (by rw [HN.out]; exact hlt)] at c1 c2
        have HC := Lib.hid (fun w' (h : On g wr w') => HS.out.says w' (HO.out.trans h) (ge xs j))
        have HB0 := Lib.hid (fun h : D (ge xs j) = false => HKp.out.keep (by rw [HN.out]; exact hlt) h)
        have HB1 := Lib.hid (fun h : D (ge xs j) = true => HKp.out.skip (by rw [HN.out]; exact hlt) h)
        have HF := Lib.hid (fun w' (h : Mor wr w') => show (w'.cell? ⟨g, i * 2, none⟩ = some (.int .i64 (ge zs i).1) ∧ w'.cell? ⟨g, i * 2 + 1, none⟩ = some (.int .i64 (ge zs i).2)) ∧ w'.frozen? ⟨g, i * 2, none⟩ = false ∧ w'.frozen? ⟨g, i * 2 + 1, none⟩ = false from
          ⟨(HZ.out.mor h).cell i (by omega), (HZ.out.mor h).frozen i⟩)
        have HP := Lib.hid (fun w' (h : Mor wr w') => show Dat (put2 w' g i (ge xs j)) g (zs.set i (ge xs j)) ∧ On g w (put2 w' g i (ge xs j)) from ⟨(HZ.out.mor h).put i _ (by omega), (HO.out.mor h).put i _⟩)
        obtain ⟨b, hb⟩ : ∃ b, b = D (ge xs j) := ⟨_, rfl⟩
        rw [← hb] at HC HB0 HB1
        clear hb
        generalize ge xs j = u at *
        cases b with
        | true =>
          have HB2 := Lib.hid (HB1.out (by simp))
          go_wp2_with (first | (go_at_fn c; (with_reducible refine (HC.out _ (On.of_mor (by repeat (first | exact Mor.refl _ | apply Mor.alloc | apply Mor.more | apply Mor.drewN | apply Mor.drew)))).mono ?_); rintro e w1 ⟨rfl, bs, q, rfl⟩))
          go_roundw
          case rel => exact ⟨i, j + 1, zs, rfl, by go_num, by omega, by omega, HB2, Lib.hid (HZ.out.mor (by repeat (first | exact Mor.refl _ | apply Mor.alloc | apply Mor.more))), Lib.hid (HO.out.mor (by repeat (first | exact Mor.refl _ | apply Mor.alloc | apply Mor.more)))⟩
          case measure => simp [intOf]; omega
        | false =>
          have HB2 := Lib.hid (HB0.out (by simp))
          go_wp2_with (first | (go_at_fn c; (with_reducible refine (HC.out _ (On.of_mor (by repeat (first | exact Mor.refl _ | apply Mor.alloc | apply Mor.more | apply Mor.drewN | apply Mor.drew)))).mono ?_); rintro e w1 ⟨rfl, bs, q, rfl⟩; obtain ⟨⟨d1, d2⟩, f1, f2⟩ := HF.out (more (wr.alloc (.cells #[.int .i64 u.1, .int .i64 u.2] 52)) bs q) ((Mor.refl _).alloc.more); have HP2 := Lib.hid (HP.out (more (wr.alloc (.cells #[.int .i64 u.1, .int .i64 u.2] 52)) bs q) ((Mor.refl _).alloc.more))))
          go_roundw
          case rel => exact ⟨i + 1, j + 1, _, by go_num, by go_num, by omega, by omega, HB2, Lib.hid HP2.out.1, Lib.hid HP2.out.2⟩
          case measure => simp [intOf]; omega
      · obtain rfl : j = n := by omega
        have hin : i < j := hij
        have hii : (i : Int) ≤ (j : Int) := by omega
        have hi0 : (0 : Int) ≤ (i : Int) := by omega
        have hic : ¬ ((j : Int) < (i : Int)) := by omega
        obtain ⟨e1, e2, e3⟩ := (show Kp D xs zs i xs.length by rw [HN.out]; exact HKp.out).done
        have HE := Lib.hid (And.intro e1 e2)
        have HZ' := Lib.hid (HZ.out.take i)
        have hzl : zs.length = j := by rw [HKp.out.len, HN.out]
        have hcl : ∀ ty, (Builtin.clear_ #[48] ty #[.slice (some ⟨g, i * 2, none⟩) (j - i) (cap - i)]).run Tryd.prog wr = .ok (.tuple #[]) (wr.setCells g (i * 2) (List.replicate ((j - i) * 2) (.int .i64 0))) :=
          fun ty => run_clear2 wr ty g (i * 2) (j - i) (cap - i) (by omega) zero_item (fun q hq => by
              obtain ⟨T, cur, hb, hcu⟩ := HZ.out
              have := hcu ((i * 2 + q) / 2) (by omega)
              rw [hb.cell]
              rcases Nat.mod_two_eq_zero_or_one (i * 2 + q) with e | e
              · rw [show (i * 2 + q) / 2 * 2 = i * 2 + q by omega] at this; rw [this.1]; rfl
              · rw [show (i * 2 + q) / 2 * 2 + 1 = i * 2 + q by omega] at this; rw [this.2]; rfl)
            (fun q hq => by obtain ⟨T, cur, hb, hcu⟩ := HZ.out; exact hb.frozen _)
        have HD2 := Lib.hid (show Dat (wr.setCells g (i * 2) (List.replicate ((j - i) * 2) (.int .i64 0))) g (xs.filter (fun x => !D x)) by rw [← e1]; exact (HZ.out.take i).outs _ _ (by rw [List.length_take]; omega))
        have HO2 := Lib.hid (HO.out.outs (List.replicate ((j - i) * 2) (.int .i64 0)) (i * 2))
        clear e1 e2 e3 hzl
        go_wp2
        go_ret
        exact ⟨by rw [← HE.out.2] <;> rfl, HD2.out, HO2.out⟩

end Go.Proofs.YtahegjhjonodlaaDoor.Sv

/- The walk of age.Pay. -/
namespace Go.Proofs.YtahegjhjonodlaaDoor.Sv
open Go.ChangeShapes Go.WideShapes Go.ChangeAt Go.RowKit Stb
set_option linter.unusedVariables false
set_option maxRecDepth 100000

/-- sorting nothing -/
theorem ins_nil (c : Nat) (cb : Array Value) (w : World) : Calls Tryd.prog 99 #[.slice none 0 0, .int .i64 0, .int .i64 0, .func (.func c) #[] cb] w fun e w' => e = .returned (.tuple #[]) ∧ w = w' := by
  go_enter Tryd.func99, Tryd.ntmps99
  go_wp2
  refine wp_loop_rounds 1 ?_
  repeat (
    rw [rounds_succ]
    go_wp2_with fail)
  go_end0
  exact ⟨rfl, rfl⟩
theorem stable_nil (c : Nat) (cb : Array Value) (w : World) : Calls Tryd.prog 86 #[.slice none 0 0, .int .i64 0, .func (.func c) #[] cb] w fun e w' => e = .returned (.tuple #[]) ∧ w = w' := by
  have HI := Lib.hid (ins_nil c cb w)
  go_enter Tryd.func86, Tryd.ntmps86
  go_wp2_with fail
  refine wp_loop_rounds 1 ?_
  repeat (
    rw [rounds_succ]
    go_wp2_with (go_at_call 99; (with_reducible refine HI.out.mono ?_); rintro r w1 ⟨rfl, rfl⟩))
  refine wp_loop_rounds 1 ?_
  repeat (
    rw [rounds_succ]
    go_wp2_with fail)
  go_end0
  exact ⟨rfl, rfl⟩
theorem sort_nil (c : Nat) (cb : Array Value) (w : World) : Calls Tryd.prog 70 #[.slice none 0 0, .func (.func c) #[] cb] w fun e w' => e = .returned (.tuple #[]) ∧ w = w' := by
  have HI := Lib.hid (stable_nil c cb w)
  go_enter Tryd.func70, Tryd.ntmps70
  go_wp2_with (first | (go_at_call 86; (with_reducible refine HI.out.mono ?_); rintro r w1 ⟨rfl, rfl⟩))
  go_end0
  exact ⟨rfl, rfl⟩
theorem ixf_nil (c : Nat) (cb : Array Value) (w : World) : Calls Tryd.prog 87 #[.slice none 0 0, .func (.func c) #[] cb] w fun e w' => e = .returned (.int .i64 (-1)) ∧ w = w' := by
  go_enter Tryd.func87, Tryd.ntmps87
  go_wp2
  refine wp_loop_rounds 1 ?_
  repeat (
    rw [rounds_succ]
    go_wp2_with fail)
  go_ret
  exact ⟨rfl, rfl⟩
theorem delf_nil (c : Nat) (cb : Array Value) (w : World) : Calls Tryd.prog 72 #[.slice none 0 0, .func (.func c) #[] cb] w fun e w' => e = .returned (.slice none 0 0) ∧ w = w' := by
  have HI := Lib.hid (ixf_nil c cb w)
  go_enter Tryd.func72, Tryd.ntmps72
  go_wp2_with (first | (go_at_call 87; (with_reducible refine HI.out.mono ?_); rintro e w1 ⟨rfl, rfl⟩))
  go_ret
  exact ⟨rfl, rfl⟩

/-- what the call made: nothing, or a block of items -/
theorem own_cases {w : World} {B n : Nat} {T : TypeId} {v : Value} {xs : List Pr} (h : w.ownsRow B T 2 v n (flat pp xs)) :
    (v = .slice none 0 0 ∧ n = 0 ∧ xs = []) ∨ ∃ g cap, v = .slice (some ⟨g, 0, none⟩) n cap ∧ B ≤ g ∧ Dat w g xs ∧ n ≤ cap := by
  obtain ⟨hl, h⟩ := h
  rw [flat_len pp 2 pp_len] at hl
  rcases h with ⟨rfl, rfl⟩ | ⟨g, cap, cur, rfl, hB, hg, hn, _, hs, ht⟩
  · exact .inl ⟨rfl, rfl, List.eq_nil_of_length_eq_zero (by omega)⟩
  · refine .inr ⟨g, cap, rfl, hB, ⟨T, cur, hg, fun i hi => ?_⟩, hn⟩
    have hc : ∀ j, j < n * 2 → cur[j]? = (flat pp xs)[j]? := fun j hj => by
      rw [← ht, List.getElem?_take, if_pos hj, Array.getElem?_toList]
    have hf : ∀ r, r < 2 → (flat pp xs)[i * 2 + r]? = some ((pp xs[i]).getD r (.int .i64 0)) := fun r hr => by
      have := flat_get pp 2 pp_len xs i r hi hr (.int .i64 0)
      rw [List.getD_eq_getElem?_getD, List.getElem?_eq_getElem (by rw [flat_len pp 2 pp_len]; omega), Option.getD_some] at this
      rw [List.getElem?_eq_getElem (by rw [flat_len pp 2 pp_len]; omega), this]
    have e : xs[i] = ge xs i := by have := ge_some hi; rw [List.getElem?_eq_getElem hi] at this; injection this
    have h0 := hf 0 (by omega)
    have h1 := hf 1 (by omega)
    rw [e] at h0 h1
    rw [hc _ (by omega), hc _ (by omega)]
    exact ⟨h0, h1⟩

/-- what is wrong -/
def payc (xs : List Pr) (a : Int) : Int := if itc xs ≠ 0 then itc xs else if a < 0 ∨ 1000000000000 < a then 1 else 0
/-- what is left, of items and of the amount -/
def PayPost (w : World) (xs : List Pr) (a : Int) (e : Ending) (w' : World) : Prop :=
  ∃ B m cap, e = .returned (.tuple #[.slice B m cap, .int .i64 (lft (byDay xs) a), .int .i64 0]) ∧ Mor w w' ∧ Pi w' B (pay (byDay xs) a) ∧ (pay (byDay xs) a).length = m ∧ ((B = none ∧ m = 0 ∧ cap = 0) ∨ ∃ g, B = some ⟨g, 0, none⟩ ∧ w.heap.size ≤ g ∧ m ≤ cap)
def PayNo (w : World) (c : Int) (e : Ending) (w' : World) : Prop := e = .returned (.tuple #[.slice none 0 0, .int .i64 0, .int .i64 c]) ∧ Mor w w'

set_option maxHeartbeats 1600000 in
theorem pay_no (A : Option Addr) (n cap : Nat) (xs : List Pr) (a : Int) (w : World) (hr : Pi w A xs) (hn : xs.length = n) (hml : n ≤ maxLen) (hc : payc xs a ≠ 0) :
    Calls Tryd.prog 30 #[.slice A n cap, .int .i64 a] w (PayNo w (payc xs a)) := by
  have HC := Lib.hid (acheck_any A n cap xs w hr hn hml)
  clear hr
  by_cases h1 : itc xs = 0
  · rw [h1] at HC
    have e : payc xs a = if a < 0 ∨ 1000000000000 < a then 1 else 0 := by unfold payc; rw [if_neg (by simp [h1])]
    by_cases h2 : a < 0
    · have HF := Lib.hid (show payc xs a = 1 by rw [e, if_pos (by omega)])
      clear hc e h1 hn
      go_enter Tryd.func30, Tryd.ntmps30
      go_wp2_with (first
        | (go_at_call 65; (with_reducible refine (HC.out).mono ?_); rintro e w1 ⟨rfl, hM⟩))
      go_returns
      exact ⟨by rw [HF.out] <;> rfl, hM⟩
    · have h3 : 1000000000000 < a := by
        rw [e] at hc
        by_cases h4 : a < 0 ∨ 1000000000000 < a
        · omega
        · rw [if_neg h4] at hc; exact absurd rfl hc
      have HF := Lib.hid (show payc xs a = 1 by rw [e, if_pos (by omega)])
      clear hc e h1 hn
      go_enter Tryd.func30, Tryd.ntmps30
      go_wp2_with (first
        | (go_at_call 65; (with_reducible refine (HC.out).mono ?_); rintro e w1 ⟨rfl, hM⟩))
      go_returns
      exact ⟨by rw [HF.out] <;> rfl, hM⟩
  · have HF := Lib.hid (show payc xs a = itc xs by unfold payc; rw [if_pos h1])
    have h1' : (itc xs == 0) = false := by simpa using h1
    generalize itc xs = c at *
    clear hc hn
    go_enter Tryd.func30, Tryd.ntmps30
    go_wp2_with (first
      | (go_at_call 65; (with_reducible refine (HC.out).mono ?_); rintro e w1 ⟨rfl, hM⟩))
    go_returns
    exact ⟨by rw [HF.out] <;> rfl, hM⟩

theorem says_cmp (w : World) (g : Nat) : SaysC w g 71 #[] okP dayOf (fun x y => x.1 - y.1) :=
  ⟨fun x y _ _ => by unfold dayOf; omega, fun w' _ x y hx hy => by simpa using paycmp_any x y w' hx hy⟩
theorem says_nil (w : World) (g : Nat) : SaysD w g 73 #[] (fun p => decide (p.2 = 0)) :=
  ⟨fun w' _ x => by simpa using paynil_any x w'⟩
theorem allp {xs : List Pr} (h : ∀ p ∈ xs, okP p) : AllP okP xs := fun i hi => h _ (List.mem_of_getElem? (ge_some hi))

theorem Dat.put1 {w : World} {g : Nat} {xs : List Pr} (h : Dat w g xs) (i : Nat) (v : Int) (hi : i < xs.length) : Dat (w.setCell ⟨g, i * 2 + 1, none⟩ (.int .i64 v)) g (xs.set i ((ge xs i).1, v)) := by
  obtain ⟨T, cur, hb, hc⟩ := h
  have h1 := hc.set i ((ge xs i).1, v) hi
  have e : cur.setIfInBounds (i * 2) (.int .i64 (ge xs i).1) = cur := by
    apply Array.ext_getElem?
    intro q
    rw [Array.getElem?_setIfInBounds]
    split
    · rename_i c
      subst c
      have h2 := (hc i hi).1
      rw [h2, if_pos]
      rcases Nat.lt_or_ge (i * 2) cur.size with c | c
      · exact c
      · rw [Array.getElem?_eq_none c] at h2; cases h2
    · rfl
  dsimp only at h1
  rw [e] at h1
  exact ⟨T, _, hb.set_ _ _, h1⟩
theorem pst_next (ys : List Pr) (a : Int) (k : Nat) : pst ys a (k + 1) = ((pst ys a k).1.set k ((ge ys k).1, (ge ys k).2 - if (ge ys k).2 < (pst ys a k).2 then (ge ys k).2 else (pst ys a k).2), (pst ys a k).2 - if (ge ys k).2 < (pst ys a k).2 then (ge ys k).2 else (pst ys a k).2) := rfl

set_option maxRecDepth 100000 in
set_option maxHeartbeats 3200000 in
theorem pay_yes (A : Option Addr) (n cap : Nat) (xs : List Pr) (a : Int) (w : World) (hr : Pi w A xs) (hn : xs.length = n) (h0 : A = none → n = 0) (hc : payc xs a = 0) :
    Calls Tryd.prog 30 #[.slice A n cap, .int .i64 a] w (PayPost w xs a) := by
  obtain ⟨c1, a0, a1⟩ : itc xs = 0 ∧ 0 ≤ a ∧ a ≤ 1000000000000 := by
    unfold payc at hc
    split at hc
    · rename_i h; exact absurd hc h
    · rename_i h
      split at hc
      · omega
      · exact ⟨by omega, by omega, by omega⟩
  obtain ⟨c2, c3⟩ := (itc_iff xs).1 c1
  have HC := Lib.hid (acheck_any A n cap xs w hr hn (by unfold maxLen; omega))
  rw [c1] at HC
  have HCl := Lib.hid (fun w' (h : Mor w w') => clone_it A n cap xs w' (hr.mor h) hn h0 (by omega))
  have n40 : n ≤ 40 := by omega
  have HSo := Lib.hid (fun w' g cap' (h : Dat w' g xs) => sortStable_int g n cap' 71 #[] okP dayOf (fun x y => x.1 - y.1) xs w' (enters_of Tryd.func71 (by kernel_rfl) rfl) (says_cmp w' g) (allp c3) h hn n40)
  have HNi := Lib.hid (fun w' => sort_nil 71 #[] w')
  have HDn := Lib.hid (fun w' => delf_nil 73 #[] w')
  have HDf := Lib.hid (fun w' g cap' ys (h : Dat w' g ys) (hy : ys.length = n) (hc : n ≤ cap') => delf_any g n cap' 73 #[] (fun p => decide (p.2 = 0)) ys w' (enters_of Tryd.func73 (by kernel_rfl) rfl) (says_nil w' g) h hy hc (by omega))
  have HOk := Lib.hid c3
  have HN := Lib.hid hn
  clear hr hn h0 hc c1 c2 c3
  go_enter Tryd.func30, Tryd.ntmps30
  go_wp2_with (first
    | (go_at_call 65; (with_reducible refine (HC.out).mono ?_); rintro e w1 ⟨rfl, hM⟩; have HM := Lib.hid hM; clear hM)
    | (go_at_call 41; (with_reducible refine (HCl.out _ HM.out).mono ?_); rintro e w2 ⟨v, rfl, hown, hM2⟩; have HM2 := Lib.hid hM2; clear hM2; rcases own_cases hown with ⟨rfl, h0, hx⟩ | ⟨g, cap', rfl, hg, hdat, hcap⟩ <;> clear hown)
    | (go_at_call 70; (with_reducible refine (HNi.out _).mono ?_); rintro r w3 ⟨rfl, rfl⟩)
    | (go_at_call 70; (with_reducible refine (HSo.out _ _ _ hdat).mono ?_); rintro r w3 ⟨rfl, ys, y1, y2, y3, y4, y5⟩))
  · subst h0 hx
    refine wp_loop_rounds 1 ?_
    repeat (
      rw [rounds_succ]
      go_wp2_with (go_at_call 72; (with_reducible refine (HDn.out _).mono ?_); rintro e w4 ⟨rfl, rfl⟩))
    go_returns
    refine ⟨none, 0, 0, ?_, HM.out.trans' HM2.out, .inl rfl, rfl, .inl ⟨rfl, rfl, rfl⟩⟩
    have : lft (byDay []) a = a := by show (if 0 < a then a - 0 else 0) = a; split <;> omega
    rw [this]; rfl
  · have HY := Lib.hid (show ys = byDay xs from isort_eq y2 y3)
    have hyl : ys.length = n := by rw [y1, HN.out]
    have HYo := Lib.hid (show ∀ p ∈ ys, okP p by rw [HY.out]; exact byDay_ok HOk.out)
    have HL := Lib.hid hyl
    have HG := Lib.hid (show w.heap.size ≤ g from Nat.le_trans HM.out.below.size hg)
    have HOn := Lib.hid y5
    have HD := Lib.hid y4
    clear y1 y2 y3 y4 y5 hyl hg hdat
    go_loopw [1, 28] (fun va vi wr => ∃ k : Nat, k ≤ n ∧ vi = .int .i64 k ∧ va = .int .i64 (pst ys a k).2 ∧ Hid (Dat wr g (pst ys a k).1) ∧ Hid (On g w2 wr)) (fun _ vi _ => n - (intOf vi).toNat)
    case atStart => exact ⟨0, Nat.zero_le _, rfl, rfl, HD, HOn⟩
    case round =>
      obtain ⟨k, hk, rfl, rfl, HZ, HO⟩ := hrel
      by_cases hlt : k < n
      · have hki : (k : Int) < (n : Int) := by omega
        have hk0 : (0 : Int) ≤ (k : Int) := by omega
        have hzl : (pst ys a k).1.length = n := by rw [pst_len, HL.out]
        obtain ⟨c1, c2⟩ := HZ.out.cell k (by omega)
        obtain ⟨f1, f2⟩ := HZ.out.frozen k
        have HP := Lib.hid (fun v => HZ.out.put1 k v (by omega))
        rw [ge_pst _ _ _ _ (Nat.le_refl _)] at c1 c2 HP
        have HX := Lib.hid (pst_next ys a k)
        obtain ⟨b1, b2⟩ := pst_bd ys a a0 (ok_one HYo.out) k (by rw [HL.out]; exact hk)
        obtain ⟨_, _, b3, b4⟩ := HYo.out (ge ys k) (List.mem_of_getElem? (ge_some (by rw [HL.out]; exact hlt)))
        obtain ⟨q, hq⟩ : ∃ q, (if (ge ys k).2 < (pst ys a k).2 then (ge ys k).2 else (pst ys a k).2) = q := ⟨_, rfl⟩
        rw [hq] at HX
        have q0 : 0 ≤ q := by rw [← hq]; split <;> omega
        have q1 : q ≤ (ge ys k).2 := by rw [← hq]; split <;> omega
        have q2 : q ≤ (pst ys a k).2 := by rw [← hq]; split <;> omega
        have HX1 := Lib.hid (show (pst ys a (k + 1)).1 = (pst ys a k).1.set k ((ge ys k).1, (ge ys k).2 - q) by rw [HX.out])
        have HX2 := Lib.hid (show (pst ys a (k + 1)).2 = (pst ys a k).2 - q by rw [HX.out])
        clear HX hzl
        have HP2 := Lib.hid (HP.out ((ge ys k).2 - q))
        rw [← HX1.out] at HP2
        clear HP HX1
        generalize (pst ys a k).2 = am at *
        generalize (ge ys k).1 = d at *
        generalize (ge ys k).2 = y at *
        go_wp2
        go_roundw
        case rel => exact ⟨k + 1, by omega, by go_num, by rw [HX2.out] <;> first | rfl | go_num, HP2, Lib.hid (HO.out.setCell _)⟩
        case measure => simp [intOf]; omega
      · obtain rfl : k = n := by omega
        obtain ⟨e1, e2⟩ := pst_all ys a a0 (ok_one HYo.out)
        rw [HL.out] at e1 e2
        have HDf' := Lib.hid (show Calls Tryd.prog 72 #[.slice (some ⟨g, 0, none⟩) k cap', .func (.func 73) #[] #[]] wr fun e w' => e = .returned (.slice (some ⟨g, 0, none⟩) (pay ys a).length cap') ∧ Dat w' g (pay ys a) ∧ On g wr w' from by
          have := HDf.out wr g cap' (pst ys a k).1 HZ.out (by rw [pst_len, HL.out]) hcap
          unfold DfPost at this
          rw [e1] at this
          exact this)
        rw [e2]
        have HFin := Lib.hid (fun w4 (hd : Dat w4 g (pay ys a)) (ho : On g wr w4) => show PayPost w xs a (.returned (.tuple #[.slice (some ⟨g, 0, none⟩) (pay ys a).length cap', .int .i64 (lft ys a), .int .i64 0])) w4 by
          refine ⟨some ⟨g, 0, none⟩, (pay ys a).length, cap', by rw [HY.out], ?_, ?_, by rw [HY.out], .inr ⟨g, rfl, HG.out, ?_⟩⟩
          · exact Mor.of_below (((On.of_mor (HM.out.trans' HM2.out)).trans (HO.out.trans ho)).below HG.out)
          · rw [← HY.out]; exact hd.pi
          · have := pay_len ys a; have := HL.out; omega)
        clear e1 e2 HY
        generalize lft ys a = r at *
        generalize (pay ys a).length = m at *
        go_wp2_with (go_at_call 72; (with_reducible refine (HDf'.out).mono ?_); rintro e w4 ⟨rfl, hd, ho⟩)
        go_returns
        exact HFin.out _ hd ho

end Go.Proofs.YtahegjhjonodlaaDoor.Sv
