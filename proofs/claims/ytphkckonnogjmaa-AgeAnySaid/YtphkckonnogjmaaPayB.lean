/- The walks of slices.IndexFunc and slices.DeleteFunc at items. -/
import Derived.Test.YtphkckonnogjmaaPayA
import Derived.Test.YtphkckonnogjmaaClonePy
import Derived.Test.YtphkckonnogjmaaSuH
namespace Go.Proofs.Ytphkckonnogjmaa
open Go.ChangeShapes Go.WideShapes Go.ChangeAt Go.RowKit Stb
set_option linter.unusedVariables false

/-- a closure that says yes or no, wherever the block g alone was turned -/
structure SaysD (w : World) (g c : Nat) (cb : Array Value) (D : Pr → Bool) : Prop where
  says : ∀ (w' : World), On g w w' → ∀ x, Calls Try.prog c (#[.agg #[.int .i64 x.1, .int .i64 x.2]] ++ cb) w' fun e w'' => e = .returned (.bool (D x)) ∧ Mor w' w''
theorem SaysD.on {w w1 : World} {g c : Nat} {cb : Array Value} {D : Pr → Bool} (h : SaysD w g c cb D) (ho : On g w w1) : SaysD w1 g c cb D :=
  ⟨fun w' h' x => h.says w' (ho.trans h') x⟩
/-- the first of which D is true -/
def IxPost (w : World) (D : Pr → Bool) (xs : List Pr) (e : Ending) (w' : World) : Prop :=
  Mor w w' ∧ ((e = .returned (.int .i64 (-1)) ∧ ∀ i, i < xs.length → D (ge xs i) = false) ∨ ∃ k : Nat, k < xs.length ∧ e = .returned (.int .i64 k) ∧ D (ge xs k) = true ∧ ∀ i, i < k → D (ge xs i) = false)

set_option maxHeartbeats 1600000 in
theorem ixf_any (g n cap c : Nat) (cb : Array Value) (D : Pr → Bool) (xs : List Pr) (w : World) (eg : ∀ args w, (callFunc c args).run Try.prog w = .ok (.enter c args) w) (hs : SaysD w g c cb D) (hd : Dat w g xs) (hN : xs.length = n) (hl : n ≤ 1000) :
    Calls Try.prog 46 #[.slice (some ⟨g, 0, none⟩) n cap, .func (.func c) #[] cb] w (IxPost w D xs) := by
  have HD := Lib.hid hd
  have HN := Lib.hid hN
  have HS := Lib.hid hs
  clear hd hN hs
  go_enter Try.func46, Try.ntmps46
  go_wp2
  go_loopw [8] (fun i wr => ∃ (k : Nat), k ≤ n ∧ i = .int .i64 k ∧ Hid (∀ i, i < k → D (ge xs i) = false) ∧ Hid (Mor w wr)) (fun i _ => n - (intOf i).toNat)
  case atStart => exact ⟨0, Nat.zero_le _, rfl, Lib.hid (fun i hi => absurd hi (Nat.not_lt_zero _)), Lib.hid (Mor.refl _)⟩
  case round =>
    obtain ⟨k, hk, rfl, HB, HM⟩ := hrel
    by_cases hlt : k < n
    · have hki : (k : Int) < (n : Int) := by omega
      have hk0 : (0 : Int) ≤ (k : Int) := by omega
      obtain ⟨c1, c2⟩ := (HD.out.mor HM.out).cell k (by rw [HN.out]; exact hlt)
      obtain ⟨f1, f2⟩ := (HD.out.mor HM.out).frozen k
      have HC := Lib.hid (HS.out.says wr (On.of_mor HM.out) (ge xs k))
      have HB0 := Lib.hid (fun h : D (ge xs k) = false => show ∀ i, i < k + 1 → D (ge xs i) = false from fun i hi => by
        by_cases e : i = k
        · subst e; exact h
        · exact HB.out i (by omega))
      have HB1 := Lib.hid (fun h : D (ge xs k) = true => show k < xs.length ∧ D (ge xs k) = true ∧ ∀ i, i < k → D (ge xs i) = false from ⟨by rw [HN.out]; exact hlt, h, HB.out⟩)
      obtain ⟨b, hb⟩ : ∃ b, b = D (ge xs k) := ⟨_, rfl⟩
      rw [← hb] at HC HB0
      have HB2 := Lib.hid (fun h : b = true => HB1.out (by rw [← hb]; exact h))
      clear hb HB1
      generalize ge xs k = u at HC c1 c2
      cases b with
      | true =>
        go_wp2_with (first | (go_at_fn c; (with_reducible refine HC.out.mono ?_); rintro e w1 ⟨rfl, bs, q, rfl⟩))
        go_ret
        exact ⟨HM.out.more, .inr ⟨k, (HB2.out (by simp)).1, rfl, (HB2.out (by simp)).2⟩⟩
      | false =>
        have HB3 := Lib.hid (HB0.out rfl)
        go_wp2_with (first | (go_at_fn c; (with_reducible refine HC.out.mono ?_); rintro e w1 ⟨rfl, bs, q, rfl⟩))
        go_roundw
        case rel => exact ⟨k + 1, by omega, by go_num, HB3, Lib.hid HM.out.more⟩
        case measure => simp [intOf]; omega
    · obtain rfl : k = n := by omega
      go_wp2
      go_ret
      exact ⟨HM.out, .inl ⟨rfl, fun i hi => HB.out i (by rw [← HN.out]; exact hi)⟩⟩

/-- those of the first j that stay -/
def kept (D : Pr → Bool) (xs : List Pr) (j : Nat) : List Pr := (xs.take j).filter (fun x => !D x)
theorem kept_succ (D : Pr → Bool) (xs : List Pr) (j : Nat) (h : j < xs.length) : kept D xs (j + 1) = kept D xs j ++ if D (ge xs j) = true then [] else [ge xs j] := by
  unfold kept
  have e : xs[j] = ge xs j := by have := ge_some h; rw [List.getElem?_eq_getElem h] at this; injection this
  rw [List.take_succ_eq_append_getElem h, List.filter_append, e]
  congr 1
  by_cases c : D (ge xs j) = true
  · rw [List.filter_cons_of_neg (by simp [c]), if_pos c]; rfl
  · rw [List.filter_cons_of_pos (by simpa using c), if_neg c]; rfl
theorem kept_le (D : Pr → Bool) (xs : List Pr) (j : Nat) (h : j ≤ xs.length) : (kept D xs j).length ≤ j := by
  unfold kept
  refine Nat.le_trans (List.length_filter_le _ _) ?_
  rw [List.length_take]; omega
structure Kp (D : Pr → Bool) (xs zs : List Pr) (i j : Nat) : Prop where
  len : zs.length = xs.length
  take : zs.take i = kept D xs j
  rest : ∀ k, j ≤ k → k < xs.length → ge zs k = ge xs k
  lt : i < j
theorem Kp.start {D : Pr → Bool} {xs : List Pr} {k : Nat} (hk : k < xs.length) (h : D (ge xs k) = true) (hb : ∀ i, i < k → D (ge xs i) = false) : Kp D xs xs k (k + 1) := by
  refine ⟨rfl, ?_, fun _ _ _ => rfl, by omega⟩
  rw [kept_succ _ _ _ hk, if_pos h, List.append_nil]
  unfold kept
  refine (List.filter_eq_self.2 fun x hx => ?_).symm
  obtain ⟨i, hi, rfl⟩ := List.getElem_of_mem hx
  rw [List.length_take] at hi
  have := hb i (by omega)
  have e := ge_some (xs := xs) (i := i) (by omega)
  rw [List.getElem?_eq_getElem (by omega)] at e
  injection e with e
  rw [List.getElem_take, e, this]; rfl
theorem Kp.skip {D : Pr → Bool} {xs zs : List Pr} {i j : Nat} (h : Kp D xs zs i j) (hj : j < xs.length) (hd : D (ge xs j) = true) : Kp D xs zs i (j + 1) :=
  ⟨h.len, by rw [h.take, kept_succ _ _ _ hj, if_pos hd, List.append_nil], fun k hk hl => h.rest k (by omega) hl, by have := h.lt; omega⟩
theorem Kp.keep {D : Pr → Bool} {xs zs : List Pr} {i j : Nat} (h : Kp D xs zs i j) (hj : j < xs.length) (hd : D (ge xs j) = false) : Kp D xs (zs.set i (ge xs j)) (i + 1) (j + 1) := by
  have hl := h.lt
  have hn := h.len
  refine ⟨by rw [List.length_set, h.len], ?_, fun k hk hk' => ?_, by omega⟩
  · rw [kept_succ _ _ _ hj, if_neg (by simp [hd]), ← h.take, List.take_succ_eq_append_getElem (by rw [List.length_set]; omega), List.getElem_set_self]
    congr 1
    apply List.ext_getElem?
    intro q
    rw [List.getElem?_take, List.getElem?_take, List.getElem?_set]
    split
    · rw [if_neg (by omega)]
    · rfl
  · rw [← h.rest k (by omega) hk']
    unfold ge
    rw [List.getD_eq_getElem?_getD, List.getElem?_set, if_neg (by omega), ← List.getD_eq_getElem?_getD]
theorem Kp.done {D : Pr → Bool} {xs zs : List Pr} {i : Nat} (h : Kp D xs zs i xs.length) : zs.take i = xs.filter (fun x => !D x) ∧ i = (xs.filter (fun x => !D x)).length ∧ i < xs.length := by
  have e : zs.take i = xs.filter (fun x => !D x) := by rw [h.take]; unfold kept; rw [List.take_length]
  have hl := h.lt
  refine ⟨e, ?_, hl⟩
  rw [← e, List.length_take, h.len]; omega
theorem kept_all {D : Pr → Bool} {xs : List Pr} (h : ∀ i, i < xs.length → D (ge xs i) = false) : xs.filter (fun x => !D x) = xs := by
  refine List.filter_eq_self.2 fun x hx => ?_
  obtain ⟨i, hi, rfl⟩ := List.getElem_of_mem hx
  have := h i hi
  have e := ge_some hi
  rw [List.getElem?_eq_getElem hi] at e
  injection e with e
  rw [e, this]; rfl

/-- those that stay, in place -/
def DfPost (w : World) (g cap : Nat) (D : Pr → Bool) (xs : List Pr) (e : Ending) (w' : World) : Prop :=
  e = .returned (.slice (some ⟨g, 0, none⟩) (xs.filter (fun x => !D x)).length cap) ∧ Dat w' g (xs.filter (fun x => !D x)) ∧ On g w w'

theorem zero_item (w : World) : (zeroValue 28).run Try.prog w = .ok (.agg #[.int .i64 0, .int .i64 0]) w := by
  simp [zeroValue]; rfl

set_option maxHeartbeats 3200000 in
theorem delf_any (g n cap c : Nat) (cb : Array Value) (D : Pr → Bool) (xs : List Pr) (w : World) (eg : ∀ args w, (callFunc c args).run Try.prog w = .ok (.enter c args) w) (hs : SaysD w g c cb D) (hd : Dat w g xs) (hN : xs.length = n) (hc : n ≤ cap) (hl : n ≤ 1000) :
    Calls Try.prog 34 #[.slice (some ⟨g, 0, none⟩) n cap, .func (.func c) #[] cb] w (DfPost w g cap D xs) := by
  have hI := ixf_any g n cap c cb D xs w eg hs hd hN hl
  have HD := Lib.hid hd
  have HN := Lib.hid hN
  have HS := Lib.hid hs
  clear hd hN hs
  by_cases hall : ∀ i, i < xs.length → D (ge xs i) = false
  · have HI := Lib.hid (hI.mono (R' := fun e w' => e = .returned (.int .i64 (-1)) ∧ Mor w w') (by
      rintro e w' ⟨hM, ⟨rfl, _⟩ | ⟨k, hk, rfl, ht, _⟩⟩
      · exact ⟨rfl, hM⟩
      · have := hall k hk; rw [ht] at this; cases this))
    clear hI
    go_enter Try.func34, Try.ntmps34
    go_wp2_with (first | (go_at_call 46; (with_reducible refine HI.out.mono ?_); rintro e w1 ⟨rfl, hM⟩))
    go_ret
    have e := kept_all hall
    exact ⟨by rw [e, HN.out] <;> rfl, by rw [e]; exact HD.out.mor hM, On.of_mor hM⟩
  · obtain ⟨k0, hk0, ht, hb⟩ : ∃ k, k < xs.length ∧ D (ge xs k) = true ∧ ∀ i, i < k → D (ge xs i) = false := by
      apply Classical.byContradiction
      intro hno
      apply hall
      intro i
      induction i using Nat.strongRecOn with
      | ind i ih =>
        intro hi
        cases hd : D (ge xs i) with
        | false => rfl
        | true => exact absurd ⟨i, hi, hd, fun j hj => ih j hj (by omega)⟩ hno
    have HI := Lib.hid (hI.mono (R' := fun e w' => e = .returned (.int .i64 k0) ∧ Mor w w') (by
      rintro e w' ⟨hM, ⟨rfl, hx⟩ | ⟨k, hk, rfl, ht', hb'⟩⟩
      · exact absurd hx hall
      · have : k = k0 := by
          rcases Nat.lt_trichotomy k k0 with h | h | h
          · have := hb k h; rw [ht'] at this; cases this
          · exact h
          · have := hb' k0 h; rw [ht] at this; cases this
        subst this
        exact ⟨rfl, hM⟩))
    have HK := Lib.hid (Kp.start hk0 ht hb)
    have hk0' : k0 < n := by rw [← HN.out]; exact hk0
    have hne : ((k0 : Int) == -1) = false := beq_eq_false_iff_ne.2 (by omega)
    clear hI ht hb hk0 hall
    go_enter Try.func34, Try.ntmps34
    go_wp2_with (first | (go_at_call 46; (with_reducible refine HI.out.mono ?_); rintro e w1 ⟨rfl, hM⟩))
    have HM := Lib.hid hM
    clear hM HI
    go_loopw [5, 6, 7] (fun vi vj _ wr => ∃ (i j : Nat) (zs : List Pr), vi = .int .i64 i ∧ vj = .int .i64 j ∧ i < j ∧ j ≤ n ∧ Hid (Kp D xs zs i j) ∧ Hid (Dat wr g zs) ∧ Hid (On g w wr)) (fun _ vj _ _ => n - (intOf vj).toNat)
    case atStart => exact ⟨k0, k0 + 1, xs, rfl, by go_num, by omega, by omega, HK, Lib.hid (HD.out.mor HM.out), Lib.hid (On.of_mor HM.out)⟩
    case round =>
      obtain ⟨i, j, zs, rfl, rfl, hij, hjn, HKp, HZ, HO⟩ := hrel
      by_cases hlt : j < n
      · have hki : (j : Int) < (n : Int) := by omega
        have hk0 : (0 : Int) ≤ (j : Int) := by omega
        have hii : (i : Int) < (n : Int) := by omega
        have hi0 : (0 : Int) ≤ (i : Int) := by omega
        have hzl : zs.length = n := by rw [HKp.out.len, HN.out]
        obtain ⟨c1, c2⟩ := HZ.out.cell j (by rw [hzl]; exact hlt)
        rw [HKp.out.rest j (Nat.le_refl _) (by rw [HN.out]; exact hlt)] at c1 c2
        have HC := Lib.hid (fun w' (h : On g wr w') => HS.out.says w' (HO.out.trans h) (ge xs j))
        have HB0 := Lib.hid (fun h : D (ge xs j) = false => HKp.out.keep (by rw [HN.out]; exact hlt) h)
        have HB1 := Lib.hid (fun h : D (ge xs j) = true => HKp.out.skip (by rw [HN.out]; exact hlt) h)
        have HF := Lib.hid (fun w' (h : Mor wr w') => show (w'.cell? ⟨g, i * 2, none⟩ = some (.int .i64 (ge zs i).1) ∧ w'.cell? ⟨g, i * 2 + 1, none⟩ = some (.int .i64 (ge zs i).2)) ∧ w'.frozen? ⟨g, i * 2, none⟩ = false ∧ w'.frozen? ⟨g, i * 2 + 1, none⟩ = false from
          ⟨(HZ.out.mor h).cell i (by omega), (HZ.out.mor h).frozen i⟩)
        have HP := Lib.hid (fun w' (h : Mor wr w') => show Dat (put2 w' g i (ge xs j)) g (zs.set i (ge xs j)) ∧ On g w (put2 w' g i (ge xs j)) from ⟨(HZ.out.mor h).put i _ (by omega), (HO.out.mor h).put i _⟩)
        obtain ⟨b, hb⟩ : ∃ b, b = D (ge xs j) := ⟨_, rfl⟩
        rw [← hb] at HC HB0 HB1
        clear hb
        generalize ge xs j = u at *
        cases b with
        | true =>
          have HB2 := Lib.hid (HB1.out (by simp))
          go_wp2_with (first | (go_at_fn c; (with_reducible refine (HC.out _ (On.of_mor (by repeat (first | exact Mor.refl _ | apply Mor.alloc | apply Mor.more | apply Mor.drewN | apply Mor.drew)))).mono ?_); rintro e w1 ⟨rfl, bs, q, rfl⟩))
          go_roundw
          case rel => exact ⟨i, j + 1, zs, rfl, by go_num, by omega, by omega, HB2, Lib.hid (HZ.out.mor (by repeat (first | exact Mor.refl _ | apply Mor.alloc | apply Mor.more))), Lib.hid (HO.out.mor (by repeat (first | exact Mor.refl _ | apply Mor.alloc | apply Mor.more)))⟩
          case measure => simp [intOf]; omega
        | false =>
          have HB2 := Lib.hid (HB0.out (by simp))
          go_wp2_with (first | (go_at_fn c; (with_reducible refine (HC.out _ (On.of_mor (by repeat (first | exact Mor.refl _ | apply Mor.alloc | apply Mor.more | apply Mor.drewN | apply Mor.drew)))).mono ?_); rintro e w1 ⟨rfl, bs, q, rfl⟩; obtain ⟨⟨d1, d2⟩, f1, f2⟩ := HF.out (more (wr.alloc (.cells #[.int .i64 u.1, .int .i64 u.2] 28)) bs q) ((Mor.refl _).alloc.more); have HP2 := Lib.hid (HP.out (more (wr.alloc (.cells #[.int .i64 u.1, .int .i64 u.2] 28)) bs q) ((Mor.refl _).alloc.more))))
          go_roundw
          case rel => exact ⟨i + 1, j + 1, _, by go_num, by go_num, by omega, by omega, HB2, Lib.hid HP2.out.1, Lib.hid HP2.out.2⟩
          case measure => simp [intOf]; omega
      · obtain rfl : j = n := by omega
        have hin : i < j := hij
        have hii : (i : Int) ≤ (j : Int) := by omega
        have hi0 : (0 : Int) ≤ (i : Int) := by omega
        have hic : ¬ ((j : Int) < (i : Int)) := by omega
        obtain ⟨e1, e2, e3⟩ := (show Kp D xs zs i xs.length by rw [HN.out]; exact HKp.out).done
        have HE := Lib.hid (And.intro e1 e2)
        have HZ' := Lib.hid (HZ.out.take i)
        have hzl : zs.length = j := by rw [HKp.out.len, HN.out]
        have hcl : ∀ ty, (Builtin.clear_ #[22] ty #[.slice (some ⟨g, i * 2, none⟩) (j - i) (cap - i)]).run Try.prog wr = .ok (.tuple #[]) (wr.setCells g (i * 2) (List.replicate ((j - i) * 2) (.int .i64 0))) :=
          fun ty => run_clear2 wr ty g (i * 2) (j - i) (cap - i) (by omega) zero_item (fun q hq => by
              obtain ⟨T, cur, hb, hcu⟩ := HZ.out
              have := hcu ((i * 2 + q) / 2) (by omega)
              rw [hb.cell]
              rcases Nat.mod_two_eq_zero_or_one (i * 2 + q) with e | e
              · rw [show (i * 2 + q) / 2 * 2 = i * 2 + q by omega] at this; rw [this.1]; rfl
              · rw [show (i * 2 + q) / 2 * 2 + 1 = i * 2 + q by omega] at this; rw [this.2]; rfl)
            (fun q hq => by obtain ⟨T, cur, hb, hcu⟩ := HZ.out; exact hb.frozen _)
        have HD2 := Lib.hid (show Dat (wr.setCells g (i * 2) (List.replicate ((j - i) * 2) (.int .i64 0))) g (xs.filter (fun x => !D x)) by rw [← e1]; exact (HZ.out.take i).outs _ _ (by rw [List.length_take]; omega))
        have HO2 := Lib.hid (HO.out.outs (List.replicate ((j - i) * 2) (.int .i64 0)) (i * 2))
        clear e1 e2 e3 hzl
        go_wp2
        go_ret
        exact ⟨by rw [← HE.out.2] <;> rfl, HD2.out, HO2.out⟩

end Go.Proofs.Ytphkckonnogjmaa
