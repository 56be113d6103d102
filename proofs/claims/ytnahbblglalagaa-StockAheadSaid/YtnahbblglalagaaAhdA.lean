/- Fifo and Mean, be they refused or not; what comes later does not turn what went. -/
import Derived.Test.YtnahbblglalagaaMvA
namespace Go.Proofs.Ytnahbblglalagaa
open Go.ChangeShapes Go.WideShapes Go.ChangeAt Go.RowKit Stb
set_option linter.unusedVariables false

def fifoO (xs : List Pr) : List Int := if fifoc xs = 0 then ((fifoS xs xs.length).getD ([], [])).2 else []
def meanO (xs : List Pr) : List Int := if fifoc xs = 0 then ((meanS xs xs.length).getD (0, 0, [])).2.2 else []
theorem own_row {w : World} {B n : Nat} {T : TypeId} {u : Value} {ys : List Int} (h : w.ownsRow B T 1 u n (ys.map (Value.int .i64))) : ∃ U c, u = .slice U n c ∧ n ≤ c ∧ Ri w U ys := by
  obtain ⟨A, c, e, hc, _, _⟩ := own_shape h
  subst e
  exact ⟨A, c, rfl, hc, own_ri h⟩
theorem fifo_any (A : Option Addr) (n cap : Nat) (xs : List Pr) (w : World) (hr : Pi w A xs) (hn : xs.length = n) (hml : n ≤ maxLen) :
    Calls Try.prog 8 #[.slice A n cap] w fun e w' => ∃ U c v, e = .returned (.tuple #[.slice U (fifoO xs).length c, v, .int .i64 (fifoc xs)]) ∧ (fifoO xs).length ≤ c ∧ Ri w' U (fifoO xs) ∧ Mor w w' := by
  by_cases hc : fifoc xs = 0
  · obtain ⟨h1, s, hs⟩ := fifoc_zero hc
    have ho : fifoO xs = s.2 := by unfold fifoO; rw [if_pos hc, hs]; rfl
    rw [hc, ho]
    refine (fifo_ok A n cap xs s w hr hn h1 (by rw [← hn]; exact hs)).mono fun e w' h => ?_
    obtain ⟨u, v, he, hm, hu, _⟩ := h
    obtain ⟨U, c, rfl, hle, hri⟩ := own_row hu
    exact ⟨U, c, v, he, hle, hri, hm⟩
  · have ho : fifoO xs = [] := by unfold fifoO; rw [if_neg hc]
    rw [ho]
    refine (fifo_no A n cap xs w hr hn hml hc).mono fun e w' h => ?_
    exact ⟨none, 0, _, h.1, Nat.le_refl _, .inl rfl, h.2⟩
theorem mean_any (A : Option Addr) (n cap : Nat) (xs : List Pr) (w : World) (hr : Pi w A xs) (hn : xs.length = n) (hml : n ≤ maxLen) :
    Calls Try.prog 6 #[.slice A n cap] w fun e w' => ∃ U c a b, e = .returned (.tuple #[.slice U (meanO xs).length c, .agg #[.int .i64 a, .int .i64 b], .int .i64 (fifoc xs)]) ∧ (meanO xs).length ≤ c ∧ Ri w' U (meanO xs) ∧ Mor w w' := by
  by_cases hc : fifoc xs = 0
  · obtain ⟨s, hs⟩ := fifoc_mean hc
    have ho : meanO xs = s.2.2 := by unfold meanO; rw [if_pos hc, hs]; rfl
    rw [hc, ho]
    refine (mean_ok A n cap xs s w hr hn (fifoc_zero hc).1 (by rw [← hn]; exact hs)).mono fun e w' h => ?_
    obtain ⟨u, he, hm, hu⟩ := h
    obtain ⟨U, c, rfl, hle, hri⟩ := own_row hu
    exact ⟨U, c, _, _, he, hle, hri, hm⟩
  · have ho : meanO xs = [] := by unfold meanO; rw [if_neg hc]
    rw [ho]
    refine (mean_no A n cap xs w hr hn hml hc).mono fun e w' h => ?_
    exact ⟨none, 0, _, _, h.1, Nat.le_refl _, .inl rfl, h.2⟩
theorem ge_app (xs ys : List Pr) (i : Nat) (h : i < xs.length) : ge (xs ++ ys) i = ge xs i := by
  unfold ge; rw [List.getD_eq_getElem?_getD, List.getD_eq_getElem?_getD, List.getElem?_append_left h]
theorem fifoS_app (xs ys : List Pr) (k : Nat) (h : k ≤ xs.length) : fifoS (xs ++ ys) k = fifoS xs k := by
  induction k with
  | zero => rfl
  | succ k ih =>
    show (fifoS (xs ++ ys) k).bind _ = (fifoS xs k).bind _
    rw [ih (by omega), ge_app xs ys k (by omega)]
theorem meanS_app (xs ys : List Pr) (k : Nat) (h : k ≤ xs.length) : meanS (xs ++ ys) k = meanS xs k := by
  induction k with
  | zero => rfl
  | succ k ih =>
    show (meanS (xs ++ ys) k).bind _ = (meanS xs k).bind _
    rw [ih (by omega), ge_app xs ys k (by omega)]
theorem fifoS_grow {xs : List Pr} {k j : Nat} {s t : List Pr × List Int} (hs : fifoS xs k = some s) (ht : fifoS xs (k + j) = some t) : s.2 <+: t.2 := by
  induction j generalizing t with
  | zero =>
    rw [Nat.add_zero, hs] at ht
    injection ht with ht
    subst ht
    exact List.prefix_refl _
  | succ j ih =>
    change (fifoS xs (k + j)).bind _ = _ at ht
    cases hq : fifoS xs (k + j) with
    | none => rw [hq] at ht; cases ht
    | some q =>
      rw [hq] at ht
      have h1 := ih hq
      change fstep q (ge xs (k + j)) = some t at ht
      unfold fstep at ht
      split at ht
      · injection ht with ht; subst ht; exact h1
      · cases hz : takeF q.1 (-(ge xs (k + j)).1) with
        | none => rw [hz] at ht; cases ht
        | some z =>
          rw [hz] at ht
          injection ht with ht
          subst ht
          exact h1.trans (List.prefix_append _ _)
theorem meanS_grow {xs : List Pr} {k j : Nat} {s t : Int × Int × List Int} (hs : meanS xs k = some s) (ht : meanS xs (k + j) = some t) : s.2.2 <+: t.2.2 := by
  induction j generalizing t with
  | zero =>
    rw [Nat.add_zero, hs] at ht
    injection ht with ht
    subst ht
    exact List.prefix_refl _
  | succ j ih =>
    change (meanS xs (k + j)).bind _ = _ at ht
    cases hq : meanS xs (k + j) with
    | none => rw [hq] at ht; cases ht
    | some q =>
      rw [hq] at ht
      have h1 := ih hq
      change mstep q (ge xs (k + j)) = some t at ht
      unfold mstep at ht
      split at ht
      · injection ht with ht; subst ht; exact h1
      · split at ht
        · cases ht
        · injection ht with ht; subst ht; exact h1.trans (List.prefix_append _ _)
theorem ahead {xs ys : List Pr} (h1 : fifoc xs = 0) (h2 : fifoc (xs ++ ys) = 0) : fifoO xs <+: fifoO (xs ++ ys) ∧ meanO xs <+: meanO (xs ++ ys) := by
  obtain ⟨_, s, hs⟩ := fifoc_zero h1
  obtain ⟨_, t, ht⟩ := fifoc_zero h2
  obtain ⟨u, hu⟩ := fifoc_mean h1
  obtain ⟨v, hv⟩ := fifoc_mean h2
  unfold fifoO meanO
  rw [if_pos h1, if_pos h2, if_pos h1, if_pos h2, hs, ht, hu, hv]
  rw [List.length_append] at ht hv
  refine ⟨fifoS_grow (xs := xs ++ ys) (k := xs.length) (j := ys.length) ?_ ht, meanS_grow (xs := xs ++ ys) (k := xs.length) (j := ys.length) ?_ hv⟩
  · rw [fifoS_app xs ys _ (Nat.le_refl _)]; exact hs
  · rw [meanS_app xs ys _ (Nat.le_refl _)]; exact hu
theorem outs_len {xs : List Pr} : (fifoO xs).length ≤ 40 ∧ (meanO xs).length ≤ 40 := by
  unfold fifoO meanO
  by_cases h : fifoc xs = 0
  · rw [if_pos h, if_pos h]
    obtain ⟨h1, s, hs⟩ := fifoc_zero h
    obtain ⟨u, hu⟩ := fifoc_mean h
    obtain ⟨h40, hok⟩ := (mvc_iff xs).1 h1
    have f1 := (fifoS_ok hok (Nat.le_refl _) hs).outs
    have f2 := (meanS_ok hok (Nat.le_refl _) hu).outs
    have f3 := negs_le xs xs.length
    rw [hs, hu]
    show s.2.length ≤ 40 ∧ u.2.2.length ≤ 40
    omega
  · rw [if_neg h, if_neg h]; simp

end Go.Proofs.Ytnahbblglalagaa
