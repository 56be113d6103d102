/- The plain laws of stock: lots that go first in, first out, and by the mean. No program in sight. -/
import Derived.Test.YtahegjhjonodlaaDoorPItemsOwnZ1
import Derived.Test.YtahegjhjonodlaaDoorPItemsOwnZ2
import Derived.BigQuiet
import Derived.Deep.QuietTactic
import Derived.Handy
import Derived.Lib.Hide
import Derived.OpenShut
import Derived.Outline
import Derived.ProofKit
import Derived.RegionTactic
import Derived.WalkKit
namespace Go.Proofs.YtahegjhjonodlaaDoor
open Stb
set_option linter.unusedVariables false
set_option maxRecDepth 100000

/-- what is wrong with a move -/
def mvAt (p : Pr) : Int := if p.1 = 0 ∨ p.1 < -1000000 ∨ 1000000 < p.1 ∨ p.2 < 0 ∨ 1000000000000 < p.2 then 1 else if p.1 < 0 ∧ p.2 ≠ 0 then 3 else 0
def mvUp (xs : List Pr) : Nat → Int
  | 0 => 0
  | k + 1 => if mvUp xs k ≠ 0 then mvUp xs k else mvAt (ge xs k)
def mvc (xs : List Pr) : Int := if 40 < xs.length then 2 else mvUp xs xs.length
theorem mvUp_bad {xs : List Pr} {k n : Nat} (h : mvUp xs k = 0) (hb : mvAt (ge xs k) ≠ 0) (hk : k < n) : mvUp xs n = mvAt (ge xs k) := by
  induction n with
  | zero => omega
  | succ n ih =>
    by_cases e : k = n
    · subst e
      show (if mvUp xs k ≠ 0 then mvUp xs k else mvAt (ge xs k)) = _
      rw [if_neg (by simp [h])]
    · show (if mvUp xs n ≠ 0 then mvUp xs n else mvAt (ge xs n)) = _
      rw [ih (by omega), if_pos hb]
theorem mvUp_ok {xs : List Pr} {k : Nat} (h : mvUp xs k = 0) (hb : mvAt (ge xs k) = 0) : mvUp xs (k + 1) = 0 := by
  show (if mvUp xs k ≠ 0 then mvUp xs k else mvAt (ge xs k)) = 0
  rw [if_neg (by simp [h]), hb]
theorem mvUp_at {xs : List Pr} {k n : Nat} (h : mvUp xs n = 0) (hk : k < n) : mvAt (ge xs k) = 0 := by
  induction n with
  | zero => omega
  | succ n ih =>
    have h' : (if mvUp xs n ≠ 0 then mvUp xs n else mvAt (ge xs n)) = 0 := h
    by_cases e : mvUp xs n = 0
    · rw [if_neg (by simp [e])] at h'
      by_cases e2 : k = n
      · subst e2; exact h'
      · exact ih e (by omega)
    · rw [if_pos e] at h'; exact absurd h' e
/-- a move that may be -/
def okM (p : Pr) : Prop := (1 ≤ p.1 ∧ p.1 ≤ 1000000 ∧ 0 ≤ p.2 ∧ p.2 ≤ 1000000000000) ∨ (-1000000 ≤ p.1 ∧ p.1 < 0 ∧ p.2 = 0)
/-- a lot that may be -/
def okLs (p : Pr) : Prop := 1 ≤ p.1 ∧ p.1 ≤ 1000000 ∧ 0 ≤ p.2 ∧ p.2 ≤ 1000000000000
theorem mvAt_ok (p : Pr) : mvAt p = 0 ↔ okM p := by
  unfold mvAt okM
  constructor
  · intro h
    split at h
    · omega
    · split at h <;> omega
  · intro h
    rw [if_neg (by omega), if_neg (by omega)]
theorem mvc_iff (xs : List Pr) : mvc xs = 0 ↔ xs.length ≤ 40 ∧ ∀ i, i < xs.length → okM (ge xs i) := by
  unfold mvc
  split
  · constructor
    · intro h; omega
    · rintro ⟨h, _⟩; omega
  · rename_i h0
    constructor
    · intro h; exact ⟨by omega, fun i hi => (mvAt_ok _).1 (mvUp_at h hi)⟩
    · rintro ⟨_, h⟩
      have : ∀ k, k ≤ xs.length → mvUp xs k = 0 := by
        intro k hk
        induction k with
        | zero => rfl
        | succ k ih => exact mvUp_ok (ih (by omega)) ((mvAt_ok _).2 (h k (by omega)))
      exact this _ (Nat.le_refl _)
def cnt : List Pr → Int
  | [] => 0
  | p :: xs => p.1 + cnt xs
def cst : List Pr → Int
  | [] => 0
  | p :: xs => p.2 + cst xs
theorem cnt_snoc (xs : List Pr) (p : Pr) : cnt (xs ++ [p]) = cnt xs + p.1 := by
  induction xs with
  | nil => show p.1 + 0 = 0 + p.1; omega
  | cons y xs ih => show y.1 + cnt (xs ++ [p]) = y.1 + cnt xs + p.1; omega
theorem cst_snoc (xs : List Pr) (p : Pr) : cst (xs ++ [p]) = cst xs + p.2 := by
  induction xs with
  | nil => show p.2 + 0 = 0 + p.2; omega
  | cons y xs ih => show y.2 + cst (xs ++ [p]) = y.2 + cst xs + p.2; omega
theorem lots_bd {xs : List Pr} (h : ∀ p ∈ xs, okLs p) : (xs.length : Int) ≤ cnt xs ∧ 0 ≤ cst xs ∧ cnt xs ≤ 1000000 * xs.length ∧ cst xs ≤ 1000000000000 * xs.length := by
  induction xs with
  | nil => exact ⟨Int.le_refl _, Int.le_refl _, Int.le_refl _, Int.le_refl _⟩
  | cons p xs ih =>
    have h1 := ih fun q hq => h q (List.mem_cons_of_mem _ hq)
    have h2 := h p List.mem_cons_self
    unfold okLs at h2
    show ((xs.length + 1 : Nat) : Int) ≤ p.1 + cnt xs ∧ 0 ≤ p.2 + cst xs ∧ p.1 + cnt xs ≤ 1000000 * ((xs.length + 1 : Nat) : Int) ∧ p.2 + cst xs ≤ 1000000000000 * ((xs.length + 1 : Nat) : Int)
    omega
/-- pieces that go, those that came first, first: what they cost, and what stays -/
def takeF : List Pr → Int → Option (Int × List Pr)
  | [], n => if 0 < n then none else some (0, [])
  | p :: r, n => if n ≤ 0 then some (0, p :: r) else if p.1 ≤ n then (takeF r (n - p.1)).map (fun q => (q.1 + p.2, q.2)) else some (p.2 * n / p.1, (p.1 - n, p.2 - p.2 * n / p.1) :: r)
theorem part_bd {c k n : Int} (h1 : 1 ≤ c) (h2 : 0 ≤ k) (h3 : 0 ≤ n) (h4 : n ≤ c) : 0 ≤ k * n / c ∧ k * n / c ≤ k := by
  have p1 : 0 ≤ k * n := Int.mul_nonneg h2 h3
  have p2 : k * n ≤ k * c := Int.mul_le_mul_of_nonneg_left h4 h2
  have p3 := Int.ediv_le_ediv (show 0 < c by omega) p2
  rw [Int.mul_ediv_cancel _ (by omega)] at p3
  exact ⟨Int.ediv_nonneg p1 (by omega), p3⟩
theorem takeF_zero (xs : List Pr) (n : Int) (h : n ≤ 0) : takeF xs n = some (0, xs) := by
  cases xs with
  | nil => show (if 0 < n then none else some (0, [])) = _; rw [if_neg (by omega)]
  | cons p r => show (if n ≤ 0 then some (0, p :: r) else _) = _; rw [if_pos h]
theorem takeF_some {xs : List Pr} {n c : Int} {ys : List Pr} (h : ∀ p ∈ xs, okLs p) (hn : 0 ≤ n) (e : takeF xs n = some (c, ys)) :
    (∀ p ∈ ys, okLs p) ∧ 0 ≤ c ∧ c + cst ys = cst xs ∧ cnt ys = cnt xs - n ∧ ys.length ≤ xs.length := by
  induction xs generalizing n c ys with
  | nil =>
    change (if 0 < n then none else some (0, [])) = _ at e
    split at e
    · cases e
    · injection e with e
      injection e with e1 e2
      subst e1 e2
      refine ⟨h, Int.le_refl _, rfl, ?_, Nat.le_refl _⟩
      show (0 : Int) = 0 - n; omega
  | cons p r ih =>
    have h1 := fun q hq => h q (List.mem_cons_of_mem _ hq)
    have h2 := h p List.mem_cons_self
    change (if n ≤ 0 then some (0, p :: r) else if p.1 ≤ n then (takeF r (n - p.1)).map (fun q => (q.1 + p.2, q.2)) else some (p.2 * n / p.1, (p.1 - n, p.2 - p.2 * n / p.1) :: r)) = _ at e
    split at e
    · injection e with e
      injection e with e1 e2
      subst e1 e2
      exact ⟨h, Int.le_refl _, by omega, by omega, Nat.le_refl _⟩
    · split at e
      · cases ht : takeF r (n - p.1) with
        | none => rw [ht] at e; cases e
        | some q =>
          rw [ht] at e
          injection e with e
          injection e with e1 e2
          obtain ⟨a1, a2, a3, a4, a5⟩ := ih (n := n - p.1) (c := q.1) (ys := q.2) h1 (by omega) ht
          subst e1 e2
          unfold okLs at h2
          refine ⟨a1, by omega, ?_, ?_, by simp only [List.length_cons]; omega⟩
          · show q.1 + p.2 + cst q.2 = p.2 + cst r; omega
          · show cnt q.2 = p.1 + cnt r - n; omega
      · injection e with e
        injection e with e1 e2
        subst e1 e2
        unfold okLs at h2
        have hb := part_bd (c := p.1) (k := p.2) (n := n) (by omega) (by omega) hn (by omega)
        refine ⟨fun q hq => ?_, hb.1, ?_, ?_, Nat.le_refl _⟩
        · rcases List.mem_cons.1 hq with rfl | hq
          · unfold okLs; simp only; omega
          · exact h1 q hq
        · show p.2 * n / p.1 + (p.2 - p.2 * n / p.1 + cst r) = p.2 + cst r; omega
        · show p.1 - n + cnt r = p.1 + cnt r - n; omega
theorem takeF_iff {xs : List Pr} {n : Int} (h : ∀ p ∈ xs, okLs p) (hn : 0 ≤ n) : takeF xs n = none ↔ cnt xs < n := by
  induction xs generalizing n with
  | nil =>
    show (if 0 < n then none else some (0, [])) = none ↔ 0 < n
    split
    · simp; omega
    · simp; omega
  | cons p r ih =>
    have h1 := fun q hq => h q (List.mem_cons_of_mem _ hq)
    have h2 := h p List.mem_cons_self
    have hb := lots_bd h1
    unfold okLs at h2
    show (if n ≤ 0 then some (0, p :: r) else if p.1 ≤ n then (takeF r (n - p.1)).map (fun q => (q.1 + p.2, q.2)) else some (p.2 * n / p.1, (p.1 - n, p.2 - p.2 * n / p.1) :: r)) = none ↔ p.1 + cnt r < n
    split
    · simp; omega
    · split
      · rw [Option.map_eq_none_iff, ih h1 (by omega)]; omega
      · simp; omega

/-- the pieces and the costs of the first k moves -/
def cwd (xs : List Pr) : Nat → Int
  | 0 => 0
  | k + 1 => cwd xs k + (ge xs k).1
def kwd (xs : List Pr) : Nat → Int
  | 0 => 0
  | k + 1 => kwd xs k + (ge xs k).2
/-- how many of the first k moves go -/
def negs (xs : List Pr) : Nat → Nat
  | 0 => 0
  | k + 1 => negs xs k + if (ge xs k).1 < 0 then 1 else 0
def fstep (s : List Pr × List Int) (m : Pr) : Option (List Pr × List Int) := if 0 < m.1 then some (s.1 ++ [m], s.2) else (takeF s.1 (-m.1)).map fun q => (q.2, s.2 ++ [q.1])
/-- lots and costs after k moves -/
def fifoS (xs : List Pr) : Nat → Option (List Pr × List Int)
  | 0 => some ([], [])
  | k + 1 => (fifoS xs k).bind fun s => fstep s (ge xs k)
structure FOk (xs : List Pr) (k : Nat) (s : List Pr × List Int) : Prop where
  ok : ∀ p ∈ s.1, okLs p
  cnt : cnt s.1 = cwd xs k
  cst : cst s.1 + s.2.sum = kwd xs k
  nn : ∀ x ∈ s.2, 0 ≤ x
  outs : s.2.length = negs xs k
  len : s.1.length ≤ k
theorem fifoS_ok {xs : List Pr} (h : ∀ i, i < xs.length → okM (ge xs i)) {k : Nat} (hk : k ≤ xs.length) {s : List Pr × List Int} (e : fifoS xs k = some s) : FOk xs k s := by
  induction k generalizing s with
  | zero =>
    injection e with e
    subst e
    exact ⟨fun p hp => (by cases hp), rfl, rfl, fun x hx => (by cases hx), rfl, Nat.le_refl _⟩
  | succ k ih =>
    have hm := h k (by omega)
    change (fifoS xs k).bind (fun s => fstep s (ge xs k)) = some s at e
    cases ht : fifoS xs k with
    | none => rw [ht] at e; cases e
    | some t =>
      rw [ht] at e
      change fstep t (ge xs k) = some s at e
      obtain ⟨i1, i2, i3, i4, i5, i6⟩ := ih (by omega) ht
      unfold fstep at e
      split at e
      · rename_i hp
        injection e with e
        subst e
        unfold okM at hm
        refine ⟨fun p hp' => ?_, ?_, ?_, i4, ?_, ?_⟩
        · rcases List.mem_append.1 hp' with hp' | hp'
          · exact i1 p hp'
          · rw [List.mem_singleton.1 hp']; unfold okLs; omega
        · show Go.Proofs.YtahegjhjonodlaaDoor.cnt (t.1 ++ [ge xs k]) = cwd xs k + (ge xs k).1; rw [cnt_snoc, i2]
        · show Go.Proofs.YtahegjhjonodlaaDoor.cst (t.1 ++ [ge xs k]) + t.2.sum = kwd xs k + (ge xs k).2; rw [cst_snoc]; omega
        · show t.2.length = negs xs k + if (ge xs k).1 < 0 then 1 else 0; rw [if_neg (by omega)]; omega
        · show (t.1 ++ [ge xs k]).length ≤ k + 1; rw [List.length_append]; simp; omega
      · rename_i hp
        cases hq : takeF t.1 (-(ge xs k).1) with
        | none => rw [hq] at e; cases e
        | some q =>
          rw [hq] at e
          injection e with e
          subst e
          unfold okM at hm
          obtain ⟨a1, a2, a3, a4, a5⟩ := takeF_some (c := q.1) (ys := q.2) i1 (by omega) hq
          refine ⟨a1, ?_, ?_, fun x hx => ?_, ?_, ?_⟩
          · show Go.Proofs.YtahegjhjonodlaaDoor.cnt q.2 = cwd xs k + (ge xs k).1; omega
          · show Go.Proofs.YtahegjhjonodlaaDoor.cst q.2 + (t.2 ++ [q.1]).sum = kwd xs k + (ge xs k).2; rw [List.sum_append]; simp; omega
          · rcases List.mem_append.1 hx with hx | hx
            · exact i4 x hx
            · rw [List.mem_singleton.1 hx]; exact a2
          · show (t.2 ++ [q.1]).length = negs xs k + if (ge xs k).1 < 0 then 1 else 0; rw [if_pos (by omega), List.length_append]; simp; omega
          · show q.2.length ≤ k + 1; omega
theorem fifoS_iff {xs : List Pr} (h : ∀ i, i < xs.length → okM (ge xs i)) {k : Nat} (hk : k ≤ xs.length) : (∃ s, fifoS xs k = some s) ↔ ∀ j, j ≤ k → 0 ≤ cwd xs j := by
  induction k with
  | zero =>
    constructor
    · intro _ j hj
      obtain rfl : j = 0 := by omega
      exact Int.le_refl _
    · intro _; exact ⟨_, rfl⟩
  | succ k ih =>
    have ih := ih (by omega)
    have hm := h k (by omega)
    show (∃ s, (fifoS xs k).bind (fun s => fstep s (ge xs k)) = some s) ↔ _
    cases ht : fifoS xs k with
    | none =>
      constructor
      · rintro ⟨s, e⟩; cases e
      · intro hj
        have := ih.2 fun j hj' => hj j (by omega)
        rw [ht] at this
        obtain ⟨s, e⟩ := this
        cases e
    | some t =>
      have hc := fifoS_ok h (by omega) ht
      have hl := ih.1 ⟨t, ht⟩
      have hb := lots_bd hc.ok
      show (∃ s, fstep t (ge xs k) = some s) ↔ _
      have key : (∃ s, fstep t (ge xs k) = some s) ↔ 0 ≤ cwd xs (k + 1) := by
        show _ ↔ 0 ≤ cwd xs k + (ge xs k).1
        rw [← hc.cnt]
        unfold fstep
        split
        · refine ⟨fun _ => by omega, fun _ => ⟨_, rfl⟩⟩
        · cases hq : takeF t.1 (-(ge xs k).1) with
          | none =>
            have := (takeF_iff hc.ok (by omega)).1 hq
            refine ⟨fun ⟨s, e⟩ => (by cases e), fun h' => by omega⟩
          | some q =>
            have hne : ¬ (cnt t.1 < -(ge xs k).1) := fun h' => by
              have := (takeF_iff hc.ok (by omega)).2 h'
              rw [hq] at this; cases this
            refine ⟨fun _ => by omega, fun _ => ⟨_, rfl⟩⟩
      rw [key]
      constructor
      · intro h' j hj
        by_cases e : j = k + 1
        · subst e; exact h'
        · exact hl j (by omega)
      · intro h'; exact h' _ (Nat.le_refl _)

/-- by the mean: what n of C pieces cost that cost K -/
def mcost (C K n : Int) : Int := K / C * n + rnd (K % C * n) C 2
theorem rnd2_shift (c e d : Int) (hd : 1 ≤ d) (hc : 0 ≤ c) (he : 0 ≤ e) : rnd (d * c + e) d 2 = c + rnd e d 2 := by
  have h1 : (d * c + e) / d = c + e / d := by rw [Int.add_comm, Int.add_mul_ediv_left _ _ (by omega), Int.add_comm]
  have h2 : (d * c + e) % d = e % d := by rw [Int.add_comm, Int.add_mul_emod_self_left]
  have h3 : 0 ≤ d * c := Int.mul_nonneg (by omega) hc
  rw [rnd_2, rnd_2, h1, h2]
  have h4 : 0 ≤ e % d := Int.emod_nonneg _ (by omega)
  have h5 : 2 * (e % d) = d → 0 < e := fun h => by
    rcases Int.lt_or_eq_of_le he with h' | h'
    · exact h'
    · rw [← h'] at h; simp at h; omega
  by_cases t : d < 2 * (e % d) ∨ 2 * (e % d) = d ∧ 0 < e
  · rw [if_pos t, if_pos (by omega)]; omega
  · rw [if_neg t, if_neg (show ¬ (d < 2 * (e % d) ∨ 2 * (e % d) = d ∧ 0 < d * c + e) from fun h => h.elim (fun h => t (.inl h)) (fun h => t (.inr ⟨h.1, h5 h.1⟩)))]; omega
theorem mcost_rnd (C K n : Int) (hC : 1 ≤ C) (hK : 0 ≤ K) (hn : 0 ≤ n) : mcost C K n = rnd (K * n) C 2 := by
  have h1 : 0 ≤ K / C * n := Int.mul_nonneg (Int.ediv_nonneg hK (by omega)) hn
  have h2 : 0 ≤ K % C * n := Int.mul_nonneg (Int.emod_nonneg _ (by omega)) hn
  have h3 : K * n = C * (K / C * n) + K % C * n := by
    have := div_mod K C
    calc K * n = (C * (K / C) + K % C) * n := by rw [this]
      _ = C * (K / C * n) + K % C * n := by rw [Int.add_mul, Int.mul_assoc]
  rw [h3, rnd2_shift _ _ _ hC h1 h2]; rfl
theorem mcost_bd (C K n : Int) (hC : 1 ≤ C) (hK : 0 ≤ K) (hn : 0 ≤ n) (hnC : n ≤ C) : 0 ≤ mcost C K n ∧ mcost C K n ≤ K := by
  rw [mcost_rnd C K n hC hK hn]
  refine ⟨le_rnd _ _ _ _ hC (by rw [Int.mul_zero]; exact Int.mul_nonneg hK hn), rnd_le _ _ _ _ hC ?_⟩
  rw [Int.mul_comm C K]
  exact Int.mul_le_mul_of_nonneg_left hnC hK
theorem mcost_all (C K : Int) (hC : 1 ≤ C) (hK : 0 ≤ K) : mcost C K C = K := by
  rw [mcost_rnd C K C hC hK (by omega), Int.mul_comm]
  exact rnd_exact C 2 K hC
def mstep (s : Int × Int × List Int) (m : Pr) : Option (Int × Int × List Int) := if 0 < m.1 then some (s.1 + m.1, s.2.1 + m.2, s.2.2) else if s.1 < -m.1 then none else some (s.1 + m.1, s.2.1 - mcost s.1 s.2.1 (-m.1), s.2.2 ++ [mcost s.1 s.2.1 (-m.1)])
def meanS (xs : List Pr) : Nat → Option (Int × Int × List Int)
  | 0 => some (0, 0, [])
  | k + 1 => (meanS xs k).bind fun s => mstep s (ge xs k)
structure MOk (xs : List Pr) (k : Nat) (s : Int × Int × List Int) : Prop where
  cnt : s.1 = cwd xs k
  cst : s.2.1 + s.2.2.sum = kwd xs k
  c0 : 0 ≤ s.1
  c1 : s.1 ≤ 1000000 * k
  k0 : 0 ≤ s.2.1
  k1 : s.2.1 ≤ 1000000000000 * k
  nil : s.1 = 0 → s.2.1 = 0
  nn : ∀ x ∈ s.2.2, 0 ≤ x
  outs : s.2.2.length = negs xs k
theorem meanS_ok {xs : List Pr} (h : ∀ i, i < xs.length → okM (ge xs i)) {k : Nat} (hk : k ≤ xs.length) {s : Int × Int × List Int} (e : meanS xs k = some s) : MOk xs k s := by
  induction k generalizing s with
  | zero =>
    injection e with e
    subst e
    exact ⟨rfl, rfl, Int.le_refl _, Int.le_refl _, Int.le_refl _, Int.le_refl _, fun _ => rfl, fun x hx => (by cases hx), rfl⟩
  | succ k ih =>
    have hm := h k (by omega)
    change (meanS xs k).bind (fun s => mstep s (ge xs k)) = some s at e
    cases ht : meanS xs k with
    | none => rw [ht] at e; cases e
    | some t =>
      rw [ht] at e
      change mstep t (ge xs k) = some s at e
      obtain ⟨i1, i2, i3, i4, i5, i6, i7, i8, i9⟩ := ih (by omega) ht
      unfold mstep at e
      unfold okM at hm
      split at e
      · rename_i hp
        injection e with e
        subst e
        refine ⟨?_, ?_, ?_, ?_, ?_, ?_, ?_, i8, ?_⟩
        · show t.1 + (ge xs k).1 = cwd xs k + (ge xs k).1; omega
        · show t.2.1 + (ge xs k).2 + t.2.2.sum = kwd xs k + (ge xs k).2; omega
        · show 0 ≤ t.1 + (ge xs k).1; omega
        · show t.1 + (ge xs k).1 ≤ 1000000 * ((k + 1 : Nat) : Int); omega
        · show 0 ≤ t.2.1 + (ge xs k).2; omega
        · show t.2.1 + (ge xs k).2 ≤ 1000000000000 * ((k + 1 : Nat) : Int); omega
        · show t.1 + (ge xs k).1 = 0 → _; intro h'; omega
        · show t.2.2.length = negs xs k + if (ge xs k).1 < 0 then 1 else 0; rw [if_neg (by omega)]; omega
      · rename_i hp
        split at e
        · cases e
        · rename_i hs
          injection e with e
          subst e
          have hb := mcost_bd t.1 t.2.1 (-(ge xs k).1) (by omega) i5 (by omega) (by omega)
          refine ⟨?_, ?_, ?_, ?_, ?_, ?_, ?_, fun x hx => ?_, ?_⟩
          · show t.1 + (ge xs k).1 = cwd xs k + (ge xs k).1; omega
          · show t.2.1 - mcost t.1 t.2.1 (-(ge xs k).1) + (t.2.2 ++ [mcost t.1 t.2.1 (-(ge xs k).1)]).sum = kwd xs k + (ge xs k).2; rw [List.sum_append]; simp; omega
          · show 0 ≤ t.1 + (ge xs k).1; omega
          · show t.1 + (ge xs k).1 ≤ 1000000 * ((k + 1 : Nat) : Int); omega
          · show 0 ≤ t.2.1 - mcost t.1 t.2.1 (-(ge xs k).1); omega
          · show t.2.1 - mcost t.1 t.2.1 (-(ge xs k).1) ≤ 1000000000000 * ((k + 1 : Nat) : Int); omega
          · show t.1 + (ge xs k).1 = 0 → t.2.1 - mcost t.1 t.2.1 (-(ge xs k).1) = 0
            intro h'
            have e' : -(ge xs k).1 = t.1 := by omega
            rw [e', mcost_all _ _ (by omega) i5]; omega
          · rcases List.mem_append.1 hx with hx | hx
            · exact i8 x hx
            · rw [List.mem_singleton.1 hx]; exact hb.1
          · show (t.2.2 ++ [mcost t.1 t.2.1 (-(ge xs k).1)]).length = negs xs k + if (ge xs k).1 < 0 then 1 else 0; rw [if_pos (by omega), List.length_append]; simp; omega
theorem meanS_iff {xs : List Pr} (h : ∀ i, i < xs.length → okM (ge xs i)) {k : Nat} (hk : k ≤ xs.length) : (∃ s, meanS xs k = some s) ↔ ∀ j, j ≤ k → 0 ≤ cwd xs j := by
  induction k with
  | zero =>
    constructor
    · intro _ j hj
      obtain rfl : j = 0 := by omega
      exact Int.le_refl _
    · intro _; exact ⟨_, rfl⟩
  | succ k ih =>
    have ih := ih (by omega)
    have hm := h k (by omega)
    show (∃ s, (meanS xs k).bind (fun s => mstep s (ge xs k)) = some s) ↔ _
    cases ht : meanS xs k with
    | none =>
      constructor
      · rintro ⟨s, e⟩; cases e
      · intro hj
        have := ih.2 fun j hj' => hj j (by omega)
        rw [ht] at this
        obtain ⟨s, e⟩ := this
        cases e
    | some t =>
      have hc := meanS_ok h (by omega) ht
      have hl := ih.1 ⟨t, ht⟩
      show (∃ s, mstep t (ge xs k) = some s) ↔ _
      have key : (∃ s, mstep t (ge xs k) = some s) ↔ 0 ≤ cwd xs (k + 1) := by
        show _ ↔ 0 ≤ cwd xs k + (ge xs k).1
        have := hc.cnt
        have := hc.c0
        unfold mstep
        split
        · exact ⟨fun _ => by omega, fun _ => ⟨_, rfl⟩⟩
        · split
          · exact ⟨fun ⟨s, e⟩ => (by cases e), fun h' => by omega⟩
          · exact ⟨fun _ => by omega, fun _ => ⟨_, rfl⟩⟩
      rw [key]
      constructor
      · intro h' j hj
        by_cases e : j = k + 1
        · subst e; exact h'
        · exact hl j (by omega)
      · intro h'; exact h' _ (Nat.le_refl _)

end Go.Proofs.YtahegjhjonodlaaDoor

/- Worlds that follow one another; addresses. -/
namespace Go.Proofs.YtahegjhjonodlaaDoor
open Go.ChangeShapes Go.WideShapes Go.ChangeAt Go.RowKit
set_option linter.unusedVariables false
set_option maxRecDepth 100000

theorem Mor.trans' {w w1 w2 : World} (h : Mor w w1) (h' : Mor w1 w2) : Mor w w2 := by
  obtain ⟨bs, k, rfl⟩ := h'; exact h.more
theorem addb (x : Addr) (i : Nat) : (x.add i).block = x.block := by unfold Addr.add; split <;> rfl
theorem adds (b o i : Nat) : (⟨b, o, none⟩ : Addr).add i = ⟨b, o + i, none⟩ := by
  unfold Addr.add; split
  · subst_vars; rfl
  · rfl

end Go.Proofs.YtahegjhjonodlaaDoor

/- Stable sorting as a function: what is sorted by a key, each key's own in their order, is isort. No program in sight. -/
namespace Go.Proofs.YtahegjhjonodlaaDoor.Stb
set_option linter.unusedVariables false
set_option maxRecDepth 100000
set_option linter.unusedSectionVars false
variable {α : Type}

def sins (key : α → Int) (x : α) : List α → List α
  | [] => [x]
  | y :: ys => if key x ≤ key y then x :: y :: ys else y :: sins key x ys
def isort (key : α → Int) : List α → List α
  | [] => []
  | x :: xs => sins key x (isort key xs)
variable {key : α → Int}
theorem mem_sins {x z : α} {ys : List α} : z ∈ sins key x ys ↔ z = x ∨ z ∈ ys := by
  induction ys with
  | nil => simp [sins]
  | cons y ys ih =>
    unfold sins
    split
    · simp
    · simp only [List.mem_cons, ih]
      constructor
      · rintro (h | h | h)
        · exact .inr (.inl h)
        · exact .inl h
        · exact .inr (.inr h)
      · rintro (h | h | h)
        · exact .inr (.inl h)
        · exact .inl h
        · exact .inr (.inr h)
theorem srt_sins {x : α} {ys : List α} (h : Srt key ys) : Srt key (sins key x ys) := by
  induction ys with
  | nil => simp [sins, Srt]
  | cons y ys ih =>
    unfold Srt at h
    rw [List.pairwise_cons] at h
    unfold sins
    split
    · rename_i c
      unfold Srt
      rw [List.pairwise_cons, List.pairwise_cons]
      refine ⟨fun z hz => ?_, h.1, h.2⟩
      rcases List.mem_cons.1 hz with rfl | hz
      · exact c
      · have := h.1 z hz; omega
    · rename_i c
      unfold Srt
      rw [List.pairwise_cons]
      refine ⟨fun z hz => ?_, ih h.2⟩
      rcases mem_sins.1 hz with rfl | hz
      · omega
      · exact h.1 z hz
theorem same_sins {x : α} {ys : List α} : Same key (sins key x ys) (x :: ys) := by
  induction ys with
  | nil => exact Same.refl _
  | cons y ys ih =>
    unfold sins
    split
    · exact Same.refl _
    · rename_i c
      refine (Same.append (a := [y]) (b := [y]) (Same.refl _) ih).trans ?_
      exact Same.append (a := [y] ++ [x]) (b := [x] ++ [y]) (c := ys) (d := ys) (Same.swap (X := [x]) (Y := [y]) fun p hp q hq => by simp at hp hq; subst hp hq; omega).symm (Same.refl _)
theorem isort_srt (xs : List α) : Srt key (isort key xs) := by
  induction xs with
  | nil => exact List.Pairwise.nil
  | cons x xs ih => exact srt_sins ih
theorem isort_same (xs : List α) : Same key (isort key xs) xs := by
  induction xs with
  | nil => exact Same.refl _
  | cons x xs ih => exact same_sins.trans (Same.append (a := [x]) (b := [x]) (Same.refl _) ih)
theorem isort_eq {xs ys : List α} (h1 : Srt key ys) (h2 : Same key ys xs) : ys = isort key xs :=
  Srt.unique h1 (isort_srt xs) (h2.trans (isort_same xs).symm)
theorem sins_perm (x : α) (ys : List α) : (sins key x ys).Perm (x :: ys) := by
  induction ys with
  | nil => exact List.Perm.refl _
  | cons y ys ih =>
    unfold sins
    split
    · exact List.Perm.refl _
    · exact (List.Perm.cons y ih).trans (List.Perm.swap x y ys)
theorem isort_perm (xs : List α) : (isort key xs).Perm xs := by
  induction xs with
  | nil => exact List.Perm.refl _
  | cons x xs ih => exact (sins_perm x _).trans (List.Perm.cons x ih)

end Go.Proofs.YtahegjhjonodlaaDoor.Stb

/- The plain laws of paying items, the oldest first. No program in sight. -/
namespace Go.Proofs.YtahegjhjonodlaaDoor.Sv
open Stb
set_option linter.unusedVariables false
set_option maxRecDepth 100000

/-- an item that may stand -/
def okP (p : Pr) : Prop := 0 ≤ p.1 ∧ p.1 ≤ 292193 ∧ 1 ≤ p.2 ∧ p.2 ≤ 1000000000000
def tot : List Pr → Int
  | [] => 0
  | p :: xs => p.2 + tot xs
/-- the day of an item -/
def dayOf (p : Pr) : Int := p.1
/-- what is left of items that are paid in their order -/
def pay : List Pr → Int → List Pr
  | [], _ => []
  | p :: xs, a => if a < p.2 then (p.1, p.2 - a) :: xs else pay xs (a - p.2)
/-- what is left of the amount -/
def lft (xs : List Pr) (a : Int) : Int := if tot xs < a then a - tot xs else 0
/-- the items and the amount after k rounds, in place -/
def pst (xs : List Pr) (a : Int) : Nat → List Pr × Int
  | 0 => (xs, a)
  | k + 1 => ((pst xs a k).1.set k ((ge xs k).1, (ge xs k).2 - if (ge xs k).2 < (pst xs a k).2 then (ge xs k).2 else (pst xs a k).2), (pst xs a k).2 - if (ge xs k).2 < (pst xs a k).2 then (ge xs k).2 else (pst xs a k).2)
theorem pst_len (xs : List Pr) (a : Int) (k : Nat) : (pst xs a k).1.length = xs.length := by
  induction k with
  | zero => rfl
  | succ k ih => show ((pst xs a k).1.set k _).length = _; rw [List.length_set, ih]
theorem ge_cons (p : Pr) (xs : List Pr) (k : Nat) : ge (p :: xs) (k + 1) = ge xs k := by unfold ge; simp
theorem ge_zero (p : Pr) (xs : List Pr) : ge (p :: xs) 0 = p := by unfold ge; simp
theorem pst_cons (p : Pr) (xs : List Pr) (a : Int) (k : Nat) : pst (p :: xs) a (k + 1) = ((p.1, p.2 - if p.2 < a then p.2 else a) :: (pst xs (a - if p.2 < a then p.2 else a) k).1, (pst xs (a - if p.2 < a then p.2 else a) k).2) := by
  induction k with
  | zero => show ((p :: xs).set 0 _, _) = _; rw [ge_zero]; rfl
  | succ k ih =>
    show ((pst (p :: xs) a (k + 1)).1.set (k + 1) _, (pst (p :: xs) a (k + 1)).2 - _) = _
    rw [ih, ge_cons]
    rfl
theorem ge_pst (xs : List Pr) (a : Int) (k i : Nat) (h : k ≤ i) : ge (pst xs a k).1 i = ge xs i := by
  induction k with
  | zero => rfl
  | succ k ih =>
    show ge ((pst xs a k).1.set k _) i = _
    unfold ge
    rw [List.getD_eq_getElem?_getD, List.getElem?_set, if_neg (by omega), ← List.getD_eq_getElem?_getD]
    exact ih (by omega)
theorem tot_nn {xs : List Pr} (h : ∀ p ∈ xs, 1 ≤ p.2) : 0 ≤ tot xs := by
  induction xs with
  | nil => exact Int.le_refl _
  | cons p xs ih =>
    have h1 := ih fun q hq => h q (List.mem_cons_of_mem _ hq)
    have h2 := h p List.mem_cons_self
    show 0 ≤ p.2 + tot xs
    omega
theorem pst_zero (xs : List Pr) (k : Nat) (h : ∀ p ∈ xs, 1 ≤ p.2) (hk : k ≤ xs.length) : pst xs 0 k = (xs, 0) := by
  induction k with
  | zero => rfl
  | succ k ih =>
    show ((pst xs 0 k).1.set k _, (pst xs 0 k).2 - _) = _
    rw [ih (by omega)]
    have e : ¬ (ge xs k).2 < 0 := by
      have := h (ge xs k) (List.mem_of_getElem? (ge_some (by omega)))
      omega
    simp only [if_neg e, Int.sub_zero]
    have : xs.set k (ge xs k) = xs := by
      refine List.ext_getElem? fun i => ?_
      rw [List.getElem?_set]
      split
      · rename_i c; subst c; rw [if_pos (by omega), ge_some (by omega)]
      · rfl
    exact Prod.ext this rfl
theorem pst_all (xs : List Pr) (a : Int) (ha : 0 ≤ a) (h : ∀ p ∈ xs, 1 ≤ p.2) : (pst xs a xs.length).1.filter (fun p => !decide (p.2 = 0)) = pay xs a ∧ (pst xs a xs.length).2 = lft xs a := by
  induction xs generalizing a with
  | nil => refine ⟨rfl, ?_⟩; show a = if 0 < a then a - 0 else 0; split <;> omega
  | cons p xs ih =>
    have hp := h p List.mem_cons_self
    have hx : ∀ q ∈ xs, 1 ≤ q.2 := fun q hq => h q (List.mem_cons_of_mem _ hq)
    have ht := tot_nn hx
    rw [List.length_cons, pst_cons]
    by_cases c : p.2 < a
    · rw [if_pos c, Int.sub_self, List.filter_cons_of_neg (by simp)]
      obtain ⟨e1, e2⟩ := ih (a - p.2) (by omega) hx
      rw [e1, e2]
      refine ⟨by show _ = if a < p.2 then _ else _; rw [if_neg (by omega)], ?_⟩
      show (if tot xs < a - p.2 then a - p.2 - tot xs else 0) = if p.2 + tot xs < a then a - (p.2 + tot xs) else 0
      split <;> split <;> omega
    · rw [if_neg c, Int.sub_self, pst_zero _ _ hx (Nat.le_refl _)]
      refine ⟨?_, ?_⟩
      · have e : xs.filter (fun p => !decide (p.2 = 0)) = xs := List.filter_eq_self.2 fun q hq => by have := hx q hq; simp; omega
        by_cases c2 : p.2 = a
        · rw [List.filter_cons_of_neg (by simp; omega), e]
          show _ = if a < p.2 then _ else pay xs (a - p.2)
          rw [if_neg (by omega), show a - p.2 = 0 by omega]
          clear ih h e
          cases xs with
          | nil => rfl
          | cons q xs =>
            have := hx q List.mem_cons_self
            show _ = if 0 < q.2 then (q.1, q.2 - 0) :: xs else _
            rw [if_pos (by omega), Int.sub_zero]
        · rw [List.filter_cons_of_pos (by simp; omega), e]
          show _ = if a < p.2 then _ else _
          rw [if_pos (by omega)]
      · show (0 : Int) = if p.2 + tot xs < a then a - (p.2 + tot xs) else 0
        split <;> omega

theorem pay_len (xs : List Pr) (a : Int) : (pay xs a).length ≤ xs.length := by
  induction xs generalizing a with
  | nil => exact Nat.le_refl _
  | cons p xs ih =>
    show (if a < p.2 then (p.1, p.2 - a) :: xs else pay xs (a - p.2)).length ≤ _
    split
    · exact Nat.le_refl _
    · have := ih (a - p.2); simp only [List.length_cons]; omega
/-- by days, the items as they stand -/
abbrev byDay (xs : List Pr) : List Pr := isort dayOf xs
theorem byDay_ok {xs : List Pr} (h : ∀ p ∈ xs, okP p) : ∀ p ∈ byDay xs, okP p := fun p hp => h p ((isort_perm xs).mem_iff.1 hp)
theorem ok_one {xs : List Pr} (h : ∀ p ∈ xs, okP p) : ∀ p ∈ xs, 1 ≤ p.2 := fun p hp => (h p hp).2.2.1

theorem ge_px (xs : List Pr) (i : Nat) : (ge xs i).1 = px xs i ∧ (ge xs i).2 = py xs i := ⟨rfl, rfl⟩
theorem itc_iff (xs : List Pr) : itc xs = 0 ↔ xs.length ≤ 40 ∧ ∀ p ∈ xs, okP p := by
  have key : itOk xs xs.length = true ↔ ∀ p ∈ xs, okP p := by
    constructor
    · intro h p hp
      obtain ⟨i, hi, rfl⟩ := List.getElem_of_mem hp
      have := itOk_at h hi
      have e : xs[i] = ge xs i := by have := ge_some hi; rw [List.getElem?_eq_getElem hi] at this; injection this
      rw [e]; exact this
    · intro h
      unfold itOk
      rw [List.all_eq_true]
      intro i hi
      have hi := List.mem_range.1 hi
      have := h (ge xs i) (List.mem_of_getElem? (ge_some hi))
      unfold itAt
      unfold okP at this
      rw [(ge_px xs i).1, (ge_px xs i).2] at this
      simp; omega
  unfold itc
  split
  · constructor
    · intro h; omega
    · rintro ⟨h, _⟩; omega
  · split
    · rename_i h1 h2
      exact ⟨fun _ => ⟨by omega, key.1 h2⟩, fun _ => rfl⟩
    · rename_i h1 h2
      constructor
      · intro h; omega
      · rintro ⟨_, h⟩; exact absurd (key.2 h) h2
/-- bounds of the rounds -/
theorem pst_bd (xs : List Pr) (a : Int) (ha : 0 ≤ a) (h : ∀ p ∈ xs, 1 ≤ p.2) (k : Nat) (hk : k ≤ xs.length) : 0 ≤ (pst xs a k).2 ∧ (pst xs a k).2 ≤ a := by
  induction k with
  | zero => exact ⟨ha, Int.le_refl _⟩
  | succ k ih =>
    have h1 := ih (by omega)
    have h2 := h (ge xs k) (List.mem_of_getElem? (ge_some (by omega)))
    show 0 ≤ (pst xs a k).2 - _ ∧ (pst xs a k).2 - _ ≤ a
    split <;> omega

end Go.Proofs.YtahegjhjonodlaaDoor.Sv

/- The plain law of Hamilton's parts: shares rounded down, and one more to each of those that lost most. No program in sight. -/
namespace Go.Proofs.YtahegjhjonodlaaDoor
open Stb
set_option linter.unusedVariables false
set_option maxRecDepth 100000

/-- 0, 1, .. -/
def idx (n : Nat) : List Int := (List.range n).map Int.ofNat
theorem idx_len (n : Nat) : (idx n).length = n := by simp [idx]
theorem mem_idx {n : Nat} {x : Int} : x ∈ idx n ↔ ∃ i : Nat, i < n ∧ x = (i : Int) := by
  simp [idx, eq_comm]
theorem idx_nodup (n : Nat) : (idx n).Nodup := by
  unfold idx List.Nodup
  rw [List.pairwise_map]
  exact (List.nodup_range (n := n)).imp fun h e => h (Int.ofNat.inj e)
/-- the sum of f over 0 .. n-1 -/
def sumr (n : Nat) (f : Nat → Int) : Int := ((List.range n).map f).sum
/-- those that lose most stand first -/
def skey (a S : Int) (l : List Int) (x : Int) : Int := -(a * l.getD x.toNat 0 % S)
def flos (a S : Int) (l : List Int) : Int := sumr l.length fun i => a * l.getD i 0 / S
def left (a S : Int) (l : List Int) : Int := a - flos a S l
structure Ordp (a S : Int) (l ys : List Int) : Prop where
  len : ys.length = l.length
  srt : Srt (skey a S l) ys
  same : Same (skey a S l) ys (idx l.length)
theorem same_count {key : Int → Int} {xs ys : List Int} (h : Same key xs ys) (x : Int) : xs.count x = ys.count x := by
  have e : ∀ l : List Int, l.count x = (l.filter fun y => decide (key y = key x)).count x := fun l => by rw [List.count_filter (by simp)]
  rw [e xs, e ys, h (key x)]

section
variable {a S : Int} {l ys : List Int} (ho : Ordp a S l ys)
include ho
theorem Ordp.count (i : Nat) (hi : i < l.length) : ys.count (i : Int) = 1 := by
  rw [same_count ho.same]
  exact Nat.le_antisymm (List.nodup_iff_count.1 (idx_nodup _) _) (List.count_pos_iff.2 (mem_idx.2 ⟨i, hi, rfl⟩))
theorem Ordp.mem {x : Int} (h : x ∈ ys) : ∃ i : Nat, i < l.length ∧ x = (i : Int) := mem_idx.1 (ho.same.mem h)
theorem Ordp.le_one (i k : Nat) (hi : i < l.length) : (ys.take k).count (i : Int) ≤ 1 := by
  have := (List.take_sublist k ys).count_le (i : Int)
  rw [ho.count i hi] at this; exact this
theorem Ordp.first (i j k : Nat) (hi : i < l.length) (hj : j < l.length) (h : skey a S l i < skey a S l j) : (ys.take k).count (j : Int) ≤ (ys.take k).count (i : Int) := by
  by_cases c : (j : Int) ∈ ys.take k
  · have : (i : Int) ∈ ys.take k := by
      have m : (i : Int) ∈ ys := List.count_pos_iff.1 (by rw [ho.count i hi]; omega)
      rw [← List.take_append_drop k ys] at m
      rcases List.mem_append.1 m with m | m
      · exact m
      · have s := ho.srt
        rw [← List.take_append_drop k ys] at s
        have := (Srt.append.1 s).2.2 _ c _ m
        omega
    have h1 := List.count_pos_iff.2 this
    have h2 := ho.le_one j k hj
    omega
  · rw [List.count_eq_zero.2 c]; omega
end

section
variable {a : Int} {l ys : List Int} (ho : Ordp a l.sum l ys) (hS : 0 < l.sum)
include hS
include ho
end

end Go.Proofs.YtahegjhjonodlaaDoor

/- The plain law of tying: first come, first served, on both sides by days, ties js many js any way can (Glover). No program in sight. -/
namespace Go.Proofs.YtahegjhjonodlaaDoor
open Stb
set_option linter.unusedVariables false
set_option maxRecDepth 100000

/-- so many of the left ones can be tied, each to one of the right ones of its own -/
inductive Can (ok : Int → Int → Prop) : List Int → List Int → Nat → Prop
  | nil (bs : List Int) : Can ok [] bs 0
  | skip {i : Int} {js bs : List Int} {m : Nat} : Can ok js bs m → Can ok (i :: js) bs m
  | take {i k : Int} {js bs R : List Int} {m : Nat} : bs.Perm (k :: R) → ok i k → Can ok js R m → Can ok (i :: js) bs (m + 1)
theorem Can.perm {ok : Int → Int → Prop} {js bs cs : List Int} {m : Nat} (h : Can ok js bs m) (hp : bs.Perm cs) : Can ok js cs m := by
  induction h generalizing cs with
  | nil bs => exact .nil _
  | skip _ ih => exact .skip (ih hp)
  | take p o c _ => exact .take (hp.symm.trans p) o c
theorem Can.zero {ok : Int → Int → Prop} (js bs : List Int) : Can ok js bs 0 := by
  induction js with
  | nil => exact .nil _
  | cons i js ih => exact .skip ih
theorem Can.none {ok : Int → Int → Prop} {js : List Int} {m : Nat} (h : Can ok js [] m) : m = 0 := by
  induction js generalizing m with
  | nil => cases h; rfl
  | cons i js ih =>
    cases h with
    | skip h => exact ih h
    | take p _ _ => exact absurd p.length_eq (by simp)
theorem Can.mono {ok ok' : Int → Int → Prop} {js bs : List Int} {m : Nat} (h : Can ok js bs m) (hm : ∀ i ∈ js, ∀ k ∈ bs, ok i k → ok' i k) : Can ok' js bs m := by
  induction h with
  | nil bs => exact .nil _
  | skip _ ih => exact .skip (ih fun i hi k hk => hm i (by simp [hi]) k hk)
  | take p o c ih => exact .take p (hm _ (by simp) _ (p.mem_iff.2 (by simp)) o) (ih fun i hi k hk => hm i (by simp [hi]) k (p.mem_iff.2 (by simp [hk])))
theorem Can.wide {ok : Int → Int → Prop} {js bs : List Int} {m : Nat} (h : Can ok js bs m) (x : Int) : Can ok js (x :: bs) m := by
  induction h with
  | nil bs => exact .nil _
  | skip _ ih => exact .skip ih
  | take p o c ih => exact .take ((p.cons x).trans (List.Perm.swap ..)) o ih
theorem Can.left {ok : Int → Int → Prop} {js cs bs : List Int} {m : Nat} (h : Can ok js bs m) (hp : js.Perm cs) : Can ok cs bs m := by
  induction hp generalizing bs m with
  | nil => exact h
  | cons x _ ih =>
    cases h with
    | skip h => exact .skip (ih h)
    | take p o c => exact .take p o (ih c)
  | swap x y l =>
    cases h with
    | skip h =>
      cases h with
      | skip h => exact .skip (.skip h)
      | take p o c => exact .take p o (.skip c)
    | take p o c =>
      cases c with
      | skip h => exact .skip (.take p o h)
      | take p2 o2 c2 => exact .take (p.trans ((p2.cons _).trans (List.Perm.swap ..))) o2 (.take (List.Perm.refl _) o c2)
  | trans _ _ h1 h2 => exact h2 (h1 h)
/-- one of the right ones less costs one at most -/
theorem Can.del {ok : Int → Int → Prop} {js R : List Int} {y : Int} {m : Nat} (h : Can ok js (y :: R) m) : ∃ m', m ≤ m' + 1 ∧ Can ok js R m' := by
  induction js generalizing R m with
  | nil => cases h; exact ⟨0, by omega, .nil _⟩
  | cons i js ih =>
    cases h with
    | skip h => obtain ⟨m', h1, h2⟩ := ih h; exact ⟨m', h1, .skip h2⟩
    | @take _ k _ _ R' m p o c =>
      by_cases e : k = y
      · subst e
        exact ⟨m, Nat.le_refl _, .skip (c.perm p.symm.cons_inv)⟩
      · have hk : k ∈ R := by
          have : k ∈ y :: R := p.mem_iff.2 (by simp)
          simpa [e] using this
        have p1 := List.perm_cons_erase hk
        have p2 : R'.Perm (y :: R.erase k) := (p.symm.trans ((p1.cons y).trans (List.Perm.swap ..))).cons_inv
        obtain ⟨m', h1, h2⟩ := ih (c.perm p2)
        exact ⟨m' + 1, by omega, .take p1 o h2⟩
/-- one of the right ones for another one that serves wherever it does -/
theorem Can.exch {ok : Int → Int → Prop} {js R : List Int} {y z : Int} {m : Nat} (h : Can ok js (y :: R) m) (hz : ∀ i ∈ js, ok i y → ok i z) : Can ok js (z :: R) m := by
  induction js generalizing R m with
  | nil => cases h; exact .nil _
  | cons i js ih =>
    have hz' : ∀ i ∈ js, ok i y → ok i z := fun i hi => hz i (by simp [hi])
    cases h with
    | skip h => exact .skip (ih h hz')
    | @take _ k _ _ R' m p o c =>
      by_cases e : k = y
      · subst e
        exact .take (List.Perm.refl _) (hz i (by simp) o) (c.perm p.symm.cons_inv)
      · have hk : k ∈ R := by
          have : k ∈ y :: R := p.mem_iff.2 (by simp)
          simpa [e] using this
        have p1 := List.perm_cons_erase hk
        have p2 : R'.Perm (y :: R.erase k) := (p.symm.trans ((p1.cons y).trans (List.Perm.swap ..))).cons_inv
        exact .take ((p1.cons z).trans (List.Perm.swap ..)) o (ih (c.perm p2) hz')
/-- the first one takes the first that serves: nothing is lost -/
theorem Can.first {ok : Int → Int → Prop} {js bs B : List Int} {i y : Int} {m : Nat} (h : Can ok (i :: js) bs m) (hp : bs.Perm (y :: B)) (hx : ∀ z ∈ bs, ok i z → ∀ j ∈ js, ok j y → ok j z) :
    ∃ m', m ≤ m' + 1 ∧ Can ok js B m' := by
  cases h with
  | skip h => exact (h.perm hp).del
  | @take _ z _ _ R m p o c =>
    by_cases e : z = y
    · subst e; exact ⟨m, Nat.le_refl _, c.perm (p.symm.trans hp).cons_inv⟩
    · have hy : y ∈ R := by
        have : y ∈ z :: R := (p.symm.trans hp).mem_iff.2 (by simp)
        simpa [Ne.symm e] using this
      have p1 := List.perm_cons_erase hy
      have p2 : B.Perm (z :: R.erase y) := (hp.symm.trans (p.trans ((p1.cons z).trans (List.Perm.swap ..)))).cons_inv
      have c1 : Can ok js (z :: R.erase y) m := (c.perm p1).exch fun j hj => hx z (p.mem_iff.2 (by simp)) o j hj
      exact ⟨m, Nat.le_refl _, c1.perm p2.symm⟩
/-- may the items i of a and k of b be tied? -/
def okI (a b : List Pr) (w : Int) (i k : Int) : Bool :=
  decide (py a i.toNat = py b k.toNat) && (decide (px a i.toNat - px b k.toNat ≤ w) && decide (-(px a i.toNat - px b k.toNat) ≤ w))
def okP (a b : List Pr) (w : Int) (i k : Int) : Prop := okI a b w i k = true
theorem okP_iff {a b : List Pr} {w i k : Int} : okP a b w i k ↔ py a i.toNat = py b k.toNat ∧ px a i.toNat - px b k.toNat ≤ w ∧ -(px a i.toNat - px b k.toNat) ≤ w := by
  unfold okP okI; simp
def ub (us : List Bool) (k : Int) : Bool := us.getD k.toNat false
def ser (a b : List Pr) (w : Int) (us : List Bool) (i k : Int) : Bool := !(ub us k) && okI a b w i k
def tstep (a b : List Pr) (w : Int) (ob : List Int) (s : List Int × List Bool) (i : Int) : List Int × List Bool :=
  match ob.find? (ser a b w s.2 i) with
  | none => s
  | some k => (s.1.set i.toNat k, s.2.set k.toNat true)
def tieS (a b : List Pr) (w : Int) (ob : List Int) (s : List Int × List Bool) (js : List Int) : List Int × List Bool := js.foldl (tstep a b w ob) s
def dord (l : List Pr) : List Int := isort (fun i => px l i.toNat) (idx l.length)
def tieF (a b : List Pr) (w : Int) : List Int := (tieS a b w (dord b) (List.replicate a.length (-1), List.replicate b.length false) (dord a)).1
def tied (l : List Int) : Nat := (l.filter fun k => decide (0 ≤ k)).length

theorem dord_perm (l : List Pr) : (dord l).Perm (idx l.length) := isort_perm _
theorem dord_nodup (l : List Pr) : (dord l).Nodup := (dord_perm l).nodup_iff.2 (idx_nodup _)
theorem dord_mem {l : List Pr} {x : Int} : x ∈ dord l ↔ ∃ i : Nat, i < l.length ∧ x = (i : Int) := (dord_perm l).mem_iff.trans mem_idx

/-- what is so of each state -/
structure Tst (a b : List Pr) (w : Int) (s : List Int × List Bool) : Prop where
  l1 : s.1.length = a.length
  l2 : s.2.length = b.length
  at_ : ∀ i : Nat, i < a.length → ei s.1 i = -1 ∨ ∃ k : Nat, k < b.length ∧ ei s.1 i = (k : Int) ∧ s.2.getD k false = true ∧ okP a b w i k
  once : ∀ i j : Nat, i < a.length → j < a.length → 0 ≤ ei s.1 i → ei s.1 i = ei s.1 j → i = j
theorem ei_set {l : List Int} {i j : Nat} {v : Int} (h : i < l.length) : ei (l.set i v) j = if i = j then v else ei l j := by
  unfold ei
  rw [List.getD_eq_getElem?_getD, List.getElem?_set]
  by_cases e : i = j
  · subst e; rw [if_pos rfl, if_pos h, if_pos rfl]; rfl
  · rw [if_neg e, if_neg e, List.getD_eq_getElem?_getD]
theorem getD_setb {l : List Bool} {i j : Nat} (h : i < l.length) : (l.set i true).getD j false = if i = j then true else l.getD j false := by
  rw [List.getD_eq_getElem?_getD, List.getElem?_set]
  by_cases e : i = j
  · subst e; rw [if_pos rfl, if_pos h, if_pos rfl]; rfl
  · rw [if_neg e, if_neg e, List.getD_eq_getElem?_getD]
theorem Tst.zero (a b : List Pr) (w : Int) : Tst a b w (List.replicate a.length (-1), List.replicate b.length false) := by
  have e : ∀ i, i < a.length → ei (List.replicate a.length (-1)) i = -1 := fun i hi => by
    unfold ei; rw [List.getD_eq_getElem?_getD, List.getElem?_replicate, if_pos hi]; rfl
  refine ⟨by simp, by simp, fun i hi => .inl (e i hi), fun i j hi hj h => ?_⟩
  rw [e i hi] at h; omega
section
variable {a b : List Pr} {w : Int}
theorem Tst.step {s : List Int × List Bool} (h : Tst a b w s) {i k : Nat} (hi : i < a.length) (hk : k < b.length) (ho : okP a b w i k) (hu : s.2.getD k false = false) (h0 : ei s.1 i = -1) :
    Tst a b w (s.1.set i k, s.2.set k true) := by
  obtain ⟨l1, l2, h1, h2⟩ := h
  have new : ∀ j : Nat, j < a.length → ei s.1 j ≠ (k : Int) := fun j hj e => by
    rcases h1 j hj with q | ⟨k', _, q1, q2, _⟩
    · omega
    · have : k' = k := by omega
      subst this; rw [hu] at q2; cases q2
  refine ⟨by simp [l1], by simp [l2], fun j hj => ?_, fun j j' hj hj' => ?_⟩
  · show ei (s.1.set i k) j = -1 ∨ ∃ k' : Nat, k' < b.length ∧ ei (s.1.set i k) j = k' ∧ (s.2.set k true).getD k' false = true ∧ okP a b w j k'
    rw [ei_set (by omega)]
    by_cases e : i = j
    · subst e; rw [if_pos rfl]
      exact .inr ⟨k, hk, rfl, by rw [getD_setb (by omega), if_pos rfl], ho⟩
    · rw [if_neg e]
      rcases h1 j hj with q | ⟨k', q1, q2, q3, q4⟩
      · exact .inl q
      · refine .inr ⟨k', q1, q2, ?_, q4⟩
        rw [getD_setb (by omega)]
        split
        · rfl
        · exact q3
  · show 0 ≤ ei (s.1.set i k) j → ei (s.1.set i k) j = ei (s.1.set i k) j' → j = j'
    rw [ei_set (by omega), ei_set (by omega)]
    by_cases e : i = j <;> by_cases e' : i = j'
    · omega
    · rw [if_pos e, if_neg e']; intro _ h; exact absurd h.symm (new j' hj')
    · rw [if_neg e, if_pos e']; intro _ h; exact absurd h (new j hj)
    · rw [if_neg e, if_neg e']; exact h2 j j' hj hj'
theorem tied_set {l : List Int} {i : Nat} {v : Int} (hi : i < l.length) (h0 : ei l i = -1) (hv : 0 ≤ v) : tied (l.set i v) = tied l + 1 := by
  induction l generalizing i with
  | nil => simp at hi
  | cons x l ih =>
    cases i with
    | zero =>
      have hx : x = -1 := by simpa [ei] using h0
      subst hx
      unfold tied
      rw [List.set_cons_zero, List.filter_cons_of_pos (by simpa using hv), List.filter_cons_of_neg (by simp)]
      simp
    | succ i =>
      have h0' : ei l i = -1 := by simpa [ei] using h0
      have := ih (by simpa using hi) h0'
      unfold tied at this ⊢
      rw [List.set_cons_succ]
      by_cases c : 0 ≤ x
      · rw [List.filter_cons_of_pos (by simpa using c), List.filter_cons_of_pos (by simpa using c)]; simp [this]
      · rw [List.filter_cons_of_neg (by simpa using c), List.filter_cons_of_neg (by simpa using c), this]
/-- those not yet used -/
def free (ob : List Int) (us : List Bool) : List Int := ob.filter fun k => !(ub us k)
theorem free_set {us : List Bool} {ob : List Int} {k : Nat} (hn : ob.Nodup) (hm : (k : Int) ∈ ob) (hp : ∀ x ∈ ob, 0 ≤ x) (hk : k < us.length) (hu : ub us k = false) : (free ob us).Perm ((k : Int) :: free ob (us.set k true)) := by
  have m : (k : Int) ∈ free ob us := List.mem_filter.2 ⟨hm, by simp [hu]⟩
  have e : free ob (us.set k true) = (free ob us).erase (k : Int) := by
    unfold free
    rw [List.Nodup.erase_eq_filter (hn.filter _), List.filter_filter]
    refine List.filter_congr fun x hx => ?_
    have h0 := hp x hx
    unfold ub
    rw [getD_setb hk]
    by_cases e : k = x.toNat
    · rw [if_pos e]
      have : x = (k : Int) := by omega
      subst this; simp
    · rw [if_neg e]
      have : ¬ x = (k : Int) := by omega
      simp [this]
  rw [e]
  exact List.perm_cons_erase m
theorem tie_most {js : List Int} {s : List Int × List Bool} {m : Nat} (hs : Tst a b w s) (hn : js.Nodup) (ha : ∀ x ∈ js, ∃ i : Nat, i < a.length ∧ x = (i : Int) ∧ ei s.1 i = -1) (hsrt : Srt (fun i => px a i.toNat) js)
    (hc : Can (okP a b w) js (free (dord b) s.2) m) : Tst a b w (tieS a b w (dord b) s js) ∧ tied s.1 + m ≤ tied (tieS a b w (dord b) s js).1 := by
  induction js generalizing s m with
  | nil => cases hc; exact ⟨hs, Nat.le_refl _⟩
  | cons x js ih =>
    obtain ⟨i, hi, rfl, h0⟩ := ha x (by simp)
    rw [List.nodup_cons] at hn
    unfold Srt at hsrt
    rw [List.pairwise_cons] at hsrt
    show Tst a b w (tieS a b w (dord b) (tstep a b w (dord b) s i) js) ∧ tied s.1 + m ≤ tied (tieS a b w (dord b) (tstep a b w (dord b) s i) js).1
    have hfs : (free (dord b) s.2).find? (okI a b w i) = (dord b).find? (ser a b w s.2 i) := by
      unfold free
      rw [List.find?_filter]
      congr 1
      funext k
      unfold ser
      simp
    cases hf : (dord b).find? (ser a b w s.2 i) with
    | none =>
      have e : tstep a b w (dord b) s i = s := by unfold tstep; rw [hf]
      rw [e]
      have none_ : ∀ z ∈ free (dord b) s.2, ¬ okP a b w i z := by
        rw [← hfs, List.find?_eq_none] at hf
        intro z hz; exact hf z hz
      have hc' : Can (okP a b w) js (free (dord b) s.2) m := by
        cases hc with
        | skip h => exact h
        | take p o _ => exact absurd o (none_ _ (p.mem_iff.2 (by simp)))
      exact ih hs hn.2 (fun z hz => ha z (by simp [hz])) hsrt.2 hc'
    | some y =>
      obtain ⟨k, hk, rfl⟩ := dord_mem.1 (List.mem_of_find?_eq_some hf)
      have hser := List.find?_some hf
      have hu : ub s.2 (k : Int) = false := by unfold ser at hser; simp at hser; exact hser.1
      have ho : okP a b w i k := by unfold ser at hser; simp at hser; exact hser.2
      have e : tstep a b w (dord b) s i = (s.1.set i k, s.2.set k true) := by unfold tstep; rw [hf]; simp
      rw [e]
      have hs' := hs.step hi hk ho (by simpa [ub] using hu) h0
      have hfree := free_set (us := s.2) (dord_nodup b) (dord_mem.2 ⟨k, hk, rfl⟩) (fun x hx => by obtain ⟨j, _, rfl⟩ := dord_mem.1 hx; omega) (by rw [hs.l2]; exact hk) hu
      have hfirst : ∀ z ∈ free (dord b) s.2, okP a b w i z → px b k ≤ px b z.toNat := by
        intro z hz hz2
        rw [← hfs] at hf
        have srt : Srt (fun i => px b i.toNat) (free (dord b) s.2) := (isort_srt (key := fun i : Int => px b i.toNat) (idx b.length)).sublist List.filter_sublist
        obtain ⟨_, l1, l2, e2, hno⟩ := List.find?_eq_some_iff_append.1 hf
        rw [e2] at hz srt
        unfold Srt at srt
        rcases List.mem_append.1 hz with q | q
        · have := hno z q
          unfold okP at hz2
          rw [hz2] at this; cases this
        · rcases List.mem_cons.1 q with rfl | q
          · rw [Int.toNat_natCast]; exact Int.le_refl _
          · have := (List.pairwise_cons.1 (List.pairwise_append.1 srt).2.1).1 z q
            simpa using this
      obtain ⟨m', h1, h2⟩ := hc.first hfree (fun z hz hz2 j hj hj2 => by
        have f1 := hfirst z hz hz2
        have f2 := hsrt.1 j hj
        rw [okP_iff] at hz2 hj2 ho ⊢
        simp only [Int.toNat_natCast] at *
        omega)
      have := ih hs' hn.2 (fun z hz => by
        obtain ⟨j, hj, rfl, hj0⟩ := ha z (by simp [hz])
        refine ⟨j, hj, rfl, ?_⟩
        show ei (s.1.set i k) j = -1
        rw [ei_set (by rw [hs.l1]; exact hi), if_neg (fun e => hn.1 (by rw [e]; exact hz))]
        exact hj0) hsrt.2 h2
      refine ⟨this.1, ?_⟩
      have e2 := this.2
      have e3 : tied (s.1.set i k) = tied s.1 + 1 := tied_set (by rw [hs.l1]; exact hi) h0 (by omega)
      rw [e3] at e2
      omega
end

theorem ei_rep (n i : Nat) (h : i < n) : ei (List.replicate n (-1)) i = -1 := by
  unfold ei; rw [List.getD_eq_getElem?_getD, List.getElem?_replicate, if_pos h]; rfl
section
variable (a b : List Pr) (w : Int)
/-- so it is, behind all -/
theorem tieF_st : Tst a b w (tieS a b w (dord b) (List.replicate a.length (-1), List.replicate b.length false) (dord a)) :=
  (tie_most (Tst.zero a b w) (dord_nodup a) (fun x hx => by
    obtain ⟨i, hi, rfl⟩ := dord_mem.1 hx
    exact ⟨i, hi, rfl, ei_rep _ _ hi⟩) (isort_srt _) (Can.zero _ _)).1
theorem tieF_len : (tieF a b w).length = a.length := (tieF_st a b w).l1
end

end Go.Proofs.YtahegjhjonodlaaDoor

/- A block of the heap whose cells are known: 'Bk w g t cs'. -/
namespace Go.Proofs.YtahegjhjonodlaaDoor
open Go.ChangeShapes Go.WideShapes Go.ChangeAt Go.RowKit
set_option linter.unusedVariables false
set_option maxRecDepth 100000

def Bk (w : World) (g : Nat) (t : TypeId) (cs : Array Value) : Prop := w.heap[g]? = some (.cells cs t (0, 0))
section
variable {w w' : World} {g : Nat} {t : TypeId} {cs : Array Value}
theorem Bk.lt (h : Bk w g t cs) : g < w.heap.size := by
  rcases Nat.lt_or_ge g w.heap.size with hlt | hge
  · exact hlt
  · unfold Bk at h; rw [Array.getElem?_eq_none hge] at h; cases h
theorem Bk.cell (h : Bk w g t cs) (i : Nat) : w.cell? ⟨g, i, none⟩ = cs[i]? := by
  unfold Bk at h
  simp [World.cell?, h]
theorem Bk.frozen (h : Bk w g t cs) (i : Nat) : w.frozen? ⟨g, i, none⟩ = false := by
  unfold Bk at h
  simp [World.frozen?, h]
theorem Bk.new (w : World) (t : TypeId) (cs : Array Value) : Bk (w.alloc (.cells cs t)) w.heap.size t cs := heap_alloc_new w _
theorem Bk.drewN (h : Bk w g t cs) (n : Nat) : Bk (w.drewN n) g t cs := h
theorem Bk.drew (h : Bk w g t cs) : Bk w.drew g t cs := h
theorem Bk.alloc (h : Bk w g t cs) (o : Obj) : Bk (w.alloc o) g t cs := (Below.heap_alloc w o g h.lt).trans h
theorem Bk.more (h : Bk w g t cs) (bs : List Obj) (k : Nat) : Bk (Go.Proofs.YtahegjhjonodlaaDoor.more w bs k) g t cs := (block_more w bs k g h.lt).trans h
theorem Bk.set_ (h : Bk w g t cs) (i : Nat) (u : Value) : Bk (w.setCell ⟨g, i, none⟩ u) g t (cs.setIfInBounds i u) := by
  unfold Bk at h ⊢
  simp [World.setCell, Array.getElem?_modify, h]
theorem Bk.below {B : Nat} (h : Bk w g t cs) (hb : Below B w w') (hg : g < B) : Bk w' g t cs := (hb.block g hg).trans h
theorem Bk.mor (h : Bk w g t cs) (hm : Mor w w') : Bk w' g t cs := h.below hm.below h.lt
end

end Go.Proofs.YtahegjhjonodlaaDoor
