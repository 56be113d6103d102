/- The plain law of rising prices: what goes first in, first out costs no more than by the mean. No program in sight. -/
import Derived.Test.YtbjfmhncpfhdmaaPlainSt
namespace Go.Proofs.Ytbjfmhncpfhdmaa
open Stb
set_option linter.unusedVariables false

/-- lots whose prices rise from p on -/
def Rises (p : Int) : List Pr → Prop
  | [] => True
  | q :: r => ∃ p', p ≤ p' ∧ q.2 = q.1 * p' ∧ 1 ≤ q.1 ∧ Rises p' r
theorem Rises.low {p : Int} {xs : List Pr} (h0 : 0 ≤ p) (h : Rises p xs) : p * cnt xs ≤ cst xs ∧ 0 ≤ cnt xs := by
  induction xs generalizing p with
  | nil => exact ⟨by show p * 0 ≤ 0; rw [Int.mul_zero]; exact Int.le_refl _, Int.le_refl _⟩
  | cons q r ih =>
    obtain ⟨p', h1, h2, h3, h4⟩ := h
    obtain ⟨i1, i2⟩ := ih (by omega) h4
    refine ⟨?_, by show 0 ≤ q.1 + cnt r; omega⟩
    show p * (q.1 + cnt r) ≤ q.2 + cst r
    rw [h2, Int.mul_add]
    have e1 : p * q.1 ≤ q.1 * p' := by rw [Int.mul_comm]; exact Int.mul_le_mul_of_nonneg_left h1 (by omega)
    have e2 : p * cnt r ≤ p' * cnt r := Int.mul_le_mul_of_nonneg_right h1 i2
    omega
theorem rise_take {p : Int} {xs ys : List Pr} {n c : Int} (hn : 0 ≤ n) (h : Rises p xs) (e : takeF xs n = some (c, ys)) : Rises p ys ∧ c + cst ys = cst xs ∧ cnt ys = cnt xs - n := by
  induction xs generalizing n c ys p with
  | nil =>
    change (if 0 < n then none else some (0, [])) = _ at e
    split at e
    · cases e
    · injection e with e
      injection e with e1 e2
      subst e1 e2
      exact ⟨trivial, rfl, by show (0 : Int) = 0 - n; omega⟩
  | cons q r ih =>
    obtain ⟨p', h1, h2, h3, h4⟩ := h
    change (if n ≤ 0 then some (0, q :: r) else if q.1 ≤ n then (takeF r (n - q.1)).map (fun x => (x.1 + q.2, x.2)) else some (q.2 * n / q.1, (q.1 - n, q.2 - q.2 * n / q.1) :: r)) = _ at e
    split at e
    · injection e with e
      injection e with e1 e2
      subst e1 e2
      exact ⟨⟨p', h1, h2, h3, h4⟩, by omega, by omega⟩
    · split at e
      · cases ht : takeF r (n - q.1) with
        | none => rw [ht] at e; cases e
        | some x =>
          rw [ht] at e
          injection e with e
          injection e with e1 e2
          obtain ⟨a1, a2, a3⟩ := ih (p := p') (n := n - q.1) (c := x.1) (ys := x.2) (by omega) h4 ht
          subst e1 e2
          refine ⟨?_, ?_, ?_⟩
          · cases hx : x.2 with
            | nil => trivial
            | cons y z => rw [hx] at a1; obtain ⟨p2, b1, b2⟩ := a1; exact ⟨p2, by omega, b2⟩
          · show x.1 + q.2 + cst x.2 = q.2 + cst r; omega
          · show cnt x.2 = q.1 + cnt r - n; omega
      · injection e with e
        injection e with e1 e2
        subst e1 e2
        have hp : q.2 * n / q.1 = p' * n := by rw [h2, Int.mul_assoc]; exact Int.mul_ediv_cancel_left _ (by omega)
        refine ⟨⟨p', h1, ?_, by simp only; omega, h4⟩, ?_, ?_⟩
        · show q.2 - q.2 * n / q.1 = (q.1 - n) * p'
          rw [hp, h2, Int.sub_mul, Int.mul_comm n p']
        · show q.2 * n / q.1 + (q.2 - q.2 * n / q.1 + cst r) = q.2 + cst r; omega
        · show q.1 - n + cnt r = q.1 + cnt r - n; omega
/-- the first pieces cost no more than their share -/
theorem rise_mean {p : Int} {xs ys : List Pr} {n c : Int} (h0 : 0 ≤ p) (hn : 0 ≤ n) (h : Rises p xs) (e : takeF xs n = some (c, ys)) : cnt xs * c ≤ cst xs * n := by
  induction xs generalizing n c ys p with
  | nil =>
    change (if 0 < n then none else some (0, [])) = _ at e
    split at e
    · cases e
    · injection e with e
      injection e with e1 e2
      subst e1
      show (0 : Int) * 0 ≤ 0 * n
      rw [Int.zero_mul, Int.zero_mul]; exact Int.le_refl _
  | cons q r ih =>
    obtain ⟨p', h1, h2, h3, h4⟩ := h
    obtain ⟨l1, l2⟩ := h4.low (by omega)
    change (if n ≤ 0 then some (0, q :: r) else if q.1 ≤ n then (takeF r (n - q.1)).map (fun x => (x.1 + q.2, x.2)) else some (q.2 * n / q.1, (q.1 - n, q.2 - q.2 * n / q.1) :: r)) = _ at e
    show (q.1 + cnt r) * c ≤ (q.2 + cst r) * n
    split at e
    · injection e with e
      injection e with e1 e2
      subst e1
      obtain rfl : n = 0 := by omega
      rw [Int.mul_zero, Int.mul_zero]; exact Int.le_refl _
    · split at e
      · cases ht : takeF r (n - q.1) with
        | none => rw [ht] at e; cases e
        | some x =>
          rw [ht] at e
          injection e with e
          injection e with e1 e2
          have i1 := ih (p := p') (n := n - q.1) (c := x.1) (ys := x.2) (by omega) (by omega) h4 ht
          obtain ⟨a1, a2, a3⟩ := rise_take (n := n - q.1) (c := x.1) (ys := x.2) (by omega) h4 ht
          have a4 := (a1.low (by omega)).1
          rw [a3] at a4
          obtain ⟨m, hm⟩ : ∃ m, m = n - q.1 := ⟨_, rfl⟩
          rw [← hm] at i1 a4
          have hn' : n = q.1 + m := by omega
          rw [← e1, h2, hn']
          have a5 : q.1 * (p' * (cnt r - m)) ≤ q.1 * (cst r - x.1) := Int.mul_le_mul_of_nonneg_left (by omega) (by omega)
          generalize cnt r = C at *
          generalize cst r = K at *
          generalize x.1 = F at *
          generalize q.1 = k at *
          have b1 : (k + C) * (F + k * p') = k * F + k * (k * p') + C * F + k * (p' * C) := by
            rw [Int.add_mul, Int.mul_add, Int.mul_add, show C * (k * p') = k * (p' * C) by rw [← Int.mul_assoc, Int.mul_comm C k, Int.mul_assoc, Int.mul_comm C p']]; omega
          have b2 : (k * p' + K) * (k + m) = k * (k * p') + k * (p' * m) + k * K + K * m := by
            rw [Int.add_mul, Int.mul_add, Int.mul_add, show k * p' * k = k * (k * p') by rw [Int.mul_comm], show k * p' * m = k * (p' * m) by rw [Int.mul_assoc], Int.mul_comm K k]; omega
          rw [b1, b2]
          rw [Int.mul_sub, Int.mul_sub, Int.mul_sub] at a5
          omega
      · injection e with e
        injection e with e1 e2
        have hp : q.2 * n / q.1 = p' * n := by rw [h2, Int.mul_assoc]; exact Int.mul_ediv_cancel_left _ (by omega)
        rw [← e1, hp, h2]
        have b1 : p' * cnt r * n ≤ cst r * n := Int.mul_le_mul_of_nonneg_right l1 hn
        rw [Int.add_mul, Int.add_mul, show q.1 * (p' * n) = q.1 * p' * n by rw [Int.mul_assoc], show cnt r * (p' * n) = p' * cnt r * n by rw [← Int.mul_assoc, Int.mul_comm (cnt r) p']]
        omega

/-- how many pieces the purchase i is of -/
def kk (cs : List Int) (i : Nat) : Int := 1 + wi (cs.getD i 0) 100
theorem kk_bd (cs : List Int) (i : Nat) : 1 ≤ kk cs i ∧ kk cs i ≤ 100 := by
  have := wi_lo (cs.getD i 0) 100 (by omega)
  have := wi_hi (cs.getD i 0) 100 (by omega)
  unfold kk; omega
def buy (cs : List Int) (i : Nat) : Pr := (kk cs i, kk cs i * ((i : Int) + 1) * 10)
/-- the purchases from j on, n of them -/
def buys (cs : List Int) (j : Nat) : Nat → List Pr
  | 0 => []
  | n + 1 => buy cs j :: buys cs (j + 1) n
theorem buys_snoc (cs : List Int) (j n : Nat) : buys cs j (n + 1) = buys cs j n ++ [buy cs (j + n)] := by
  induction n generalizing j with
  | zero => rfl
  | succ n ih =>
    show buy cs j :: buys cs (j + 1) (n + 1) = buy cs j :: (buys cs (j + 1) n ++ _)
    rw [ih, show j + 1 + n = j + (n + 1) by omega]
theorem buys_len (cs : List Int) (j n : Nat) : (buys cs j n).length = n := by
  induction n generalizing j with
  | zero => rfl
  | succ n ih => show (buys cs (j + 1) n).length + 1 = _; rw [ih]
theorem buys_rise (cs : List Int) (j n : Nat) : Rises (10 * ((j : Int) + 1)) (buys cs j n) := by
  induction n generalizing j with
  | zero => trivial
  | succ n ih =>
    refine ⟨10 * ((j : Int) + 1), Int.le_refl _, ?_, (kk_bd cs j).1, ?_⟩
    · show kk cs j * ((j : Int) + 1) * 10 = kk cs j * (10 * ((j : Int) + 1)); rw [Int.mul_assoc, Int.mul_comm _ 10]
    · have h := ih (j + 1)
      cases hb : buys cs (j + 1) n with
      | nil => trivial
      | cons y z => rw [hb] at h; obtain ⟨p2, b1, b2⟩ := h; exact ⟨p2, by omega, b2⟩
theorem buy_ok (cs : List Int) (i : Nat) (hi : i < 20) : okL (buy cs i) := by
  obtain ⟨h1, h2⟩ := kk_bd cs i
  have a1 : kk cs i * ((i : Int) + 1) ≤ 100 * 20 := by
    have b1 := Int.mul_le_mul_of_nonneg_right h2 (show (0 : Int) ≤ (i : Int) + 1 by omega)
    omega
  have a2 : 0 ≤ kk cs i * ((i : Int) + 1) := Int.mul_nonneg (by omega) (by omega)
  unfold okL buy
  simp only
  omega
theorem buys_get (cs : List Int) (j n i : Nat) (h : i < n) : ge (buys cs j n) i = buy cs (j + i) := by
  induction n generalizing j i with
  | zero => omega
  | succ n ih =>
    cases i with
    | zero => unfold ge; rfl
    | succ i =>
      have : ge (buys cs j (n + 1)) (i + 1) = ge (buys cs (j + 1) n) i := by
        show ge (buy cs j :: buys cs (j + 1) n) (i + 1) = _; unfold ge; simp
      rw [this, ih _ _ (by omega), show j + 1 + i = j + (i + 1) by omega]
theorem buys_okL (cs : List Int) (n : Nat) (hn : n ≤ 20) : ∀ p ∈ buys cs 0 n, okL p := by
  intro p hp
  obtain ⟨i, hi, rfl⟩ := List.getElem_of_mem hp
  have e := ge_some hi
  rw [List.getElem?_eq_getElem hi] at e
  injection e with e
  rw [buys_len] at hi
  rw [e, buys_get _ _ _ _ hi]
  exact buy_ok _ _ (by omega)
theorem buys_cnt (cs : List Int) (n : Nat) : cnt (buys cs 0 n) ≤ 100 * n := by
  induction n with
  | zero => exact Int.le_refl _
  | succ n ih =>
    rw [buys_snoc, cnt_snoc]
    have := (kk_bd cs (0 + n)).2
    show cnt (buys cs 0 n) + kk cs (0 + n) ≤ _
    omega
/-- the moves: purchases, and one sale of s -/
def dear (cs : List Int) (n : Nat) (s : Int) : List Pr := buys cs 0 n ++ [(-s, 0)]
theorem dear_len (cs : List Int) (n : Nat) (s : Int) : (dear cs n s).length = n + 1 := by unfold dear; rw [List.length_append, buys_len]; rfl
theorem dear_get (cs : List Int) (n : Nat) (s : Int) (i : Nat) (h : i < n) : ge (dear cs n s) i = buy cs i := by
  have : ge (dear cs n s) i = ge (buys cs 0 n) i := by
    unfold dear ge; rw [List.getD_eq_getElem?_getD, List.getElem?_append_left (by rw [buys_len]; exact h), ← List.getD_eq_getElem?_getD]
  rw [this, buys_get _ _ _ _ h, Nat.zero_add]
theorem dear_last (cs : List Int) (n : Nat) (s : Int) : ge (dear cs n s) n = (-s, 0) := by
  unfold dear ge
  rw [List.getD_eq_getElem?_getD, List.getElem?_append_right (by rw [buys_len]; exact Nat.le_refl _), buys_len, Nat.sub_self]; rfl
theorem dear_ok (cs : List Int) (n : Nat) (s : Int) (hn : n ≤ 20) (h1 : 1 ≤ s) (h2 : s ≤ 1000000) : mvc (dear cs n s) = 0 := by
  rw [mvc_iff, dear_len]
  refine ⟨by omega, fun i hi => ?_⟩
  by_cases h : i < n
  · rw [dear_get _ _ _ _ h]
    exact .inl (buy_ok cs i (by omega))
  · obtain rfl : i = n := by omega
    rw [dear_last]
    exact .inr ⟨(show -1000000 ≤ -s by omega), (show -s < 0 by omega), rfl⟩
theorem dear_fifo (cs : List Int) (n : Nat) (s : Int) (hn : n ≤ 20) {F : Int} {ys : List Pr} (h1 : 1 ≤ s) (h : takeF (buys cs 0 n) s = some (F, ys)) : fifoS (dear cs n s) (n + 1) = some (ys, [F]) := by
  have key : ∀ k, k ≤ n → fifoS (dear cs n s) k = some (buys cs 0 k, []) := by
    intro k hk
    induction k with
    | zero => rfl
    | succ k ih =>
      show (fifoS (dear cs n s) k).bind (fun t => fstep t (ge (dear cs n s) k)) = _
      rw [ih (by omega), dear_get _ _ _ _ (by omega)]
      show fstep (buys cs 0 k, []) (buy cs k) = _
      unfold fstep
      rw [if_pos (by have := (buy_ok cs k (by omega)).1; omega), buys_snoc, Nat.zero_add]
  show (fifoS (dear cs n s) n).bind (fun t => fstep t (ge (dear cs n s) n)) = _
  rw [key n (Nat.le_refl _), dear_last]
  show fstep (buys cs 0 n, []) (-s, 0) = _
  unfold fstep
  rw [if_neg (by simp only; omega)]
  simp only [Int.neg_neg]
  rw [h]; rfl
theorem dear_mean (cs : List Int) (n : Nat) (s : Int) (hn : n ≤ 20) (h1 : 1 ≤ s) (h2 : s ≤ cnt (buys cs 0 n)) : meanS (dear cs n s) (n + 1) = some (cnt (buys cs 0 n) - s, cst (buys cs 0 n) - mcost (cnt (buys cs 0 n)) (cst (buys cs 0 n)) s, [mcost (cnt (buys cs 0 n)) (cst (buys cs 0 n)) s]) := by
  have key : ∀ k, k ≤ n → meanS (dear cs n s) k = some (cnt (buys cs 0 k), cst (buys cs 0 k), []) := by
    intro k hk
    induction k with
    | zero => rfl
    | succ k ih =>
      show (meanS (dear cs n s) k).bind (fun t => mstep t (ge (dear cs n s) k)) = _
      rw [ih (by omega), dear_get _ _ _ _ (by omega)]
      show mstep (cnt (buys cs 0 k), cst (buys cs 0 k), []) (buy cs k) = _
      unfold mstep
      rw [if_pos (by have := (buy_ok cs k (by omega)).1; omega), buys_snoc, Nat.zero_add, cnt_snoc, cst_snoc]
  show (meanS (dear cs n s) n).bind (fun t => mstep t (ge (dear cs n s) n)) = _
  rw [key n (Nat.le_refl _), dear_last]
  show mstep (cnt (buys cs 0 n), cst (buys cs 0 n), []) (-s, 0) = _
  unfold mstep
  rw [if_neg (by simp only; omega), if_neg (by simp only; omega)]
  simp only [Int.neg_neg]
  rw [show cnt (buys cs 0 n) + -s = cnt (buys cs 0 n) - s by omega]; rfl
theorem dear_le (cs : List Int) (n : Nat) (s : Int) (hn : n ≤ 20) (h1 : 1 ≤ s) (h2 : s ≤ cnt (buys cs 0 n)) {F : Int} {ys : List Pr} (h : takeF (buys cs 0 n) s = some (F, ys)) : F ≤ mcost (cnt (buys cs 0 n)) (cst (buys cs 0 n)) s := by
  have hb := lots_bd (buys_okL cs n hn)
  rw [mcost_rnd _ _ _ (by omega) hb.2.1 (by omega)]
  refine le_rnd _ _ _ _ (by omega) ?_
  exact rise_mean (p := 10 * ((0 : Nat) + 1 : Int)) (by omega) (by omega) (buys_rise cs 0 n) h

end Go.Proofs.Ytbjfmhncpfhdmaa
