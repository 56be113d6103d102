/- The plain laws of stock: lots that go first in, first out, and by the mean. No program in sight. -/
import Derived.Test.YtnahbblglalagaaPlainU
import Derived.Test.YtnahbblglalagaaPlainV
import Derived.Test.YtnahbblglalagaaPlainA
namespace Go.Proofs.Ytnahbblglalagaa
open Stb
set_option linter.unusedVariables false

/-- what is wrong with a move -/
def mvAt (p : Pr) : Int := if p.1 = 0 ∨ p.1 < -1000000 ∨ 1000000 < p.1 ∨ p.2 < 0 ∨ 1000000000000 < p.2 then 1 else if p.1 < 0 ∧ p.2 ≠ 0 then 3 else 0
def mvUp (xs : List Pr) : Nat → Int
  | 0 => 0
  | k + 1 => if mvUp xs k ≠ 0 then mvUp xs k else mvAt (ge xs k)
def mvc (xs : List Pr) : Int := if 40 < xs.length then 2 else mvUp xs xs.length
theorem mvUp_bad {xs : List Pr} {k n : Nat} (h : mvUp xs k = 0) (hb : mvAt (ge xs k) ≠ 0) (hk : k < n) : mvUp xs n = mvAt (ge xs k) := by
  induction n with
  | zero => omega
  | succ n ih =>
    by_cases e : k = n
    · subst e
      show (if mvUp xs k ≠ 0 then mvUp xs k else mvAt (ge xs k)) = _
      rw [if_neg (by simp [h])]
    · show (if mvUp xs n ≠ 0 then mvUp xs n else mvAt (ge xs n)) = _
      rw [ih (by omega), if_pos hb]
theorem mvUp_ok {xs : List Pr} {k : Nat} (h : mvUp xs k = 0) (hb : mvAt (ge xs k) = 0) : mvUp xs (k + 1) = 0 := by
  show (if mvUp xs k ≠ 0 then mvUp xs k else mvAt (ge xs k)) = 0
  rw [if_neg (by simp [h]), hb]
theorem mvUp_at {xs : List Pr} {k n : Nat} (h : mvUp xs n = 0) (hk : k < n) : mvAt (ge xs k) = 0 := by
  induction n with
  | zero => omega
  | succ n ih =>
    have h' : (if mvUp xs n ≠ 0 then mvUp xs n else mvAt (ge xs n)) = 0 := h
    by_cases e : mvUp xs n = 0
    · rw [if_neg (by simp [e])] at h'
      by_cases e2 : k = n
      · subst e2; exact h'
      · exact ih e (by omega)
    · rw [if_pos e] at h'; exact absurd h' e
/-- a move that may be -/
def okM (p : Pr) : Prop := (1 ≤ p.1 ∧ p.1 ≤ 1000000 ∧ 0 ≤ p.2 ∧ p.2 ≤ 1000000000000) ∨ (-1000000 ≤ p.1 ∧ p.1 < 0 ∧ p.2 = 0)
/-- a lot that may be -/
def okL (p : Pr) : Prop := 1 ≤ p.1 ∧ p.1 ≤ 1000000 ∧ 0 ≤ p.2 ∧ p.2 ≤ 1000000000000
theorem mvAt_ok (p : Pr) : mvAt p = 0 ↔ okM p := by
  unfold mvAt okM
  constructor
  · intro h
    split at h
    · omega
    · split at h <;> omega
  · intro h
    rw [if_neg (by omega), if_neg (by omega)]
theorem mvc_iff (xs : List Pr) : mvc xs = 0 ↔ xs.length ≤ 40 ∧ ∀ i, i < xs.length → okM (ge xs i) := by
  unfold mvc
  split
  · constructor
    · intro h; omega
    · rintro ⟨h, _⟩; omega
  · rename_i h0
    constructor
    · intro h; exact ⟨by omega, fun i hi => (mvAt_ok _).1 (mvUp_at h hi)⟩
    · rintro ⟨_, h⟩
      have : ∀ k, k ≤ xs.length → mvUp xs k = 0 := by
        intro k hk
        induction k with
        | zero => rfl
        | succ k ih => exact mvUp_ok (ih (by omega)) ((mvAt_ok _).2 (h k (by omega)))
      exact this _ (Nat.le_refl _)
theorem mvc_code (xs : List Pr) : mvc xs = 0 ∨ mvc xs = 1 ∨ mvc xs = 2 ∨ mvc xs = 3 := by
  have h : ∀ p, mvAt p = 0 ∨ mvAt p = 1 ∨ mvAt p = 3 := fun p => by unfold mvAt; split <;> (try split) <;> omega
  have h' : ∀ k, mvUp xs k = 0 ∨ mvUp xs k = 1 ∨ mvUp xs k = 3 := by
    intro k
    induction k with
    | zero => exact .inl rfl
    | succ k ih =>
      have := h (ge xs k)
      have e : mvUp xs (k + 1) = if mvUp xs k ≠ 0 then mvUp xs k else mvAt (ge xs k) := rfl
      rw [e]
      split <;> omega
  unfold mvc
  have := h' xs.length
  split <;> omega

def cnt : List Pr → Int
  | [] => 0
  | p :: xs => p.1 + cnt xs
def cst : List Pr → Int
  | [] => 0
  | p :: xs => p.2 + cst xs
theorem cnt_snoc (xs : List Pr) (p : Pr) : cnt (xs ++ [p]) = cnt xs + p.1 := by
  induction xs with
  | nil => show p.1 + 0 = 0 + p.1; omega
  | cons y xs ih => show y.1 + cnt (xs ++ [p]) = y.1 + cnt xs + p.1; omega
theorem cst_snoc (xs : List Pr) (p : Pr) : cst (xs ++ [p]) = cst xs + p.2 := by
  induction xs with
  | nil => show p.2 + 0 = 0 + p.2; omega
  | cons y xs ih => show y.2 + cst (xs ++ [p]) = y.2 + cst xs + p.2; omega
theorem lots_bd {xs : List Pr} (h : ∀ p ∈ xs, okL p) : (xs.length : Int) ≤ cnt xs ∧ 0 ≤ cst xs ∧ cnt xs ≤ 1000000 * xs.length ∧ cst xs ≤ 1000000000000 * xs.length := by
  induction xs with
  | nil => exact ⟨Int.le_refl _, Int.le_refl _, Int.le_refl _, Int.le_refl _⟩
  | cons p xs ih =>
    have h1 := ih fun q hq => h q (List.mem_cons_of_mem _ hq)
    have h2 := h p List.mem_cons_self
    unfold okL at h2
    show ((xs.length + 1 : Nat) : Int) ≤ p.1 + cnt xs ∧ 0 ≤ p.2 + cst xs ∧ p.1 + cnt xs ≤ 1000000 * ((xs.length + 1 : Nat) : Int) ∧ p.2 + cst xs ≤ 1000000000000 * ((xs.length + 1 : Nat) : Int)
    omega
/-- pieces that go, those that came first, first: what they cost, and what stays -/
def takeF : List Pr → Int → Option (Int × List Pr)
  | [], n => if 0 < n then none else some (0, [])
  | p :: r, n => if n ≤ 0 then some (0, p :: r) else if p.1 ≤ n then (takeF r (n - p.1)).map (fun q => (q.1 + p.2, q.2)) else some (p.2 * n / p.1, (p.1 - n, p.2 - p.2 * n / p.1) :: r)
theorem part_bd {c k n : Int} (h1 : 1 ≤ c) (h2 : 0 ≤ k) (h3 : 0 ≤ n) (h4 : n ≤ c) : 0 ≤ k * n / c ∧ k * n / c ≤ k := by
  have p1 : 0 ≤ k * n := Int.mul_nonneg h2 h3
  have p2 : k * n ≤ k * c := Int.mul_le_mul_of_nonneg_left h4 h2
  have p3 := Int.ediv_le_ediv (show 0 < c by omega) p2
  rw [Int.mul_ediv_cancel _ (by omega)] at p3
  exact ⟨Int.ediv_nonneg p1 (by omega), p3⟩
theorem takeF_zero (xs : List Pr) (n : Int) (h : n ≤ 0) : takeF xs n = some (0, xs) := by
  cases xs with
  | nil => show (if 0 < n then none else some (0, [])) = _; rw [if_neg (by omega)]
  | cons p r => show (if n ≤ 0 then some (0, p :: r) else _) = _; rw [if_pos h]
theorem takeF_some {xs : List Pr} {n c : Int} {ys : List Pr} (h : ∀ p ∈ xs, okL p) (hn : 0 ≤ n) (e : takeF xs n = some (c, ys)) :
    (∀ p ∈ ys, okL p) ∧ 0 ≤ c ∧ c + cst ys = cst xs ∧ cnt ys = cnt xs - n ∧ ys.length ≤ xs.length := by
  induction xs generalizing n c ys with
  | nil =>
    change (if 0 < n then none else some (0, [])) = _ at e
    split at e
    · cases e
    · injection e with e
      injection e with e1 e2
      subst e1 e2
      refine ⟨h, Int.le_refl _, rfl, ?_, Nat.le_refl _⟩
      show (0 : Int) = 0 - n; omega
  | cons p r ih =>
    have h1 := fun q hq => h q (List.mem_cons_of_mem _ hq)
    have h2 := h p List.mem_cons_self
    change (if n ≤ 0 then some (0, p :: r) else if p.1 ≤ n then (takeF r (n - p.1)).map (fun q => (q.1 + p.2, q.2)) else some (p.2 * n / p.1, (p.1 - n, p.2 - p.2 * n / p.1) :: r)) = _ at e
    split at e
    · injection e with e
      injection e with e1 e2
      subst e1 e2
      exact ⟨h, Int.le_refl _, by omega, by omega, Nat.le_refl _⟩
    · split at e
      · cases ht : takeF r (n - p.1) with
        | none => rw [ht] at e; cases e
        | some q =>
          rw [ht] at e
          injection e with e
          injection e with e1 e2
          obtain ⟨a1, a2, a3, a4, a5⟩ := ih (n := n - p.1) (c := q.1) (ys := q.2) h1 (by omega) ht
          subst e1 e2
          unfold okL at h2
          refine ⟨a1, by omega, ?_, ?_, by simp only [List.length_cons]; omega⟩
          · show q.1 + p.2 + cst q.2 = p.2 + cst r; omega
          · show cnt q.2 = p.1 + cnt r - n; omega
      · injection e with e
        injection e with e1 e2
        subst e1 e2
        unfold okL at h2
        have hb := part_bd (c := p.1) (k := p.2) (n := n) (by omega) (by omega) hn (by omega)
        refine ⟨fun q hq => ?_, hb.1, ?_, ?_, Nat.le_refl _⟩
        · rcases List.mem_cons.1 hq with rfl | hq
          · unfold okL; simp only; omega
          · exact h1 q hq
        · show p.2 * n / p.1 + (p.2 - p.2 * n / p.1 + cst r) = p.2 + cst r; omega
        · show p.1 - n + cnt r = p.1 + cnt r - n; omega
theorem takeF_iff {xs : List Pr} {n : Int} (h : ∀ p ∈ xs, okL p) (hn : 0 ≤ n) : takeF xs n = none ↔ cnt xs < n := by
  induction xs generalizing n with
  | nil =>
    show (if 0 < n then none else some (0, [])) = none ↔ 0 < n
    split
    · simp; omega
    · simp; omega
  | cons p r ih =>
    have h1 := fun q hq => h q (List.mem_cons_of_mem _ hq)
    have h2 := h p List.mem_cons_self
    have hb := lots_bd h1
    unfold okL at h2
    show (if n ≤ 0 then some (0, p :: r) else if p.1 ≤ n then (takeF r (n - p.1)).map (fun q => (q.1 + p.2, q.2)) else some (p.2 * n / p.1, (p.1 - n, p.2 - p.2 * n / p.1) :: r)) = none ↔ p.1 + cnt r < n
    split
    · simp; omega
    · split
      · rw [Option.map_eq_none_iff, ih h1 (by omega)]; omega
      · simp; omega

/-- the pieces and the costs of the first k moves -/
def cwd (xs : List Pr) : Nat → Int
  | 0 => 0
  | k + 1 => cwd xs k + (ge xs k).1
def kwd (xs : List Pr) : Nat → Int
  | 0 => 0
  | k + 1 => kwd xs k + (ge xs k).2
/-- how many of the first k moves go -/
def negs (xs : List Pr) : Nat → Nat
  | 0 => 0
  | k + 1 => negs xs k + if (ge xs k).1 < 0 then 1 else 0
def fstep (s : List Pr × List Int) (m : Pr) : Option (List Pr × List Int) := if 0 < m.1 then some (s.1 ++ [m], s.2) else (takeF s.1 (-m.1)).map fun q => (q.2, s.2 ++ [q.1])
/-- lots and costs after k moves -/
def fifoS (xs : List Pr) : Nat → Option (List Pr × List Int)
  | 0 => some ([], [])
  | k + 1 => (fifoS xs k).bind fun s => fstep s (ge xs k)
structure FOk (xs : List Pr) (k : Nat) (s : List Pr × List Int) : Prop where
  ok : ∀ p ∈ s.1, okL p
  cnt : cnt s.1 = cwd xs k
  cst : cst s.1 + s.2.sum = kwd xs k
  nn : ∀ x ∈ s.2, 0 ≤ x
  outs : s.2.length = negs xs k
  len : s.1.length ≤ k
theorem fifoS_ok {xs : List Pr} (h : ∀ i, i < xs.length → okM (ge xs i)) {k : Nat} (hk : k ≤ xs.length) {s : List Pr × List Int} (e : fifoS xs k = some s) : FOk xs k s := by
  induction k generalizing s with
  | zero =>
    injection e with e
    subst e
    exact ⟨fun p hp => (by cases hp), rfl, rfl, fun x hx => (by cases hx), rfl, Nat.le_refl _⟩
  | succ k ih =>
    have hm := h k (by omega)
    change (fifoS xs k).bind (fun s => fstep s (ge xs k)) = some s at e
    cases ht : fifoS xs k with
    | none => rw [ht] at e; cases e
    | some t =>
      rw [ht] at e
      change fstep t (ge xs k) = some s at e
      obtain ⟨i1, i2, i3, i4, i5, i6⟩ := ih (by omega) ht
      unfold fstep at e
      split at e
      · rename_i hp
        injection e with e
        subst e
        unfold okM at hm
        refine ⟨fun p hp' => ?_, ?_, ?_, i4, ?_, ?_⟩
        · rcases List.mem_append.1 hp' with hp' | hp'
          · exact i1 p hp'
          · rw [List.mem_singleton.1 hp']; unfold okL; omega
        · show Go.Proofs.Ytnahbblglalagaa.cnt (t.1 ++ [ge xs k]) = cwd xs k + (ge xs k).1; rw [cnt_snoc, i2]
        · show Go.Proofs.Ytnahbblglalagaa.cst (t.1 ++ [ge xs k]) + t.2.sum = kwd xs k + (ge xs k).2; rw [cst_snoc]; omega
        · show t.2.length = negs xs k + if (ge xs k).1 < 0 then 1 else 0; rw [if_neg (by omega)]; omega
        · show (t.1 ++ [ge xs k]).length ≤ k + 1; rw [List.length_append]; simp; omega
      · rename_i hp
        cases hq : takeF t.1 (-(ge xs k).1) with
        | none => rw [hq] at e; cases e
        | some q =>
          rw [hq] at e
          injection e with e
          subst e
          unfold okM at hm
          obtain ⟨a1, a2, a3, a4, a5⟩ := takeF_some (c := q.1) (ys := q.2) i1 (by omega) hq
          refine ⟨a1, ?_, ?_, fun x hx => ?_, ?_, ?_⟩
          · show Go.Proofs.Ytnahbblglalagaa.cnt q.2 = cwd xs k + (ge xs k).1; omega
          · show Go.Proofs.Ytnahbblglalagaa.cst q.2 + (t.2 ++ [q.1]).sum = kwd xs k + (ge xs k).2; rw [List.sum_append]; simp; omega
          · rcases List.mem_append.1 hx with hx | hx
            · exact i4 x hx
            · rw [List.mem_singleton.1 hx]; exact a2
          · show (t.2 ++ [q.1]).length = negs xs k + if (ge xs k).1 < 0 then 1 else 0; rw [if_pos (by omega), List.length_append]; simp; omega
          · show q.2.length ≤ k + 1; omega
theorem fifoS_iff {xs : List Pr} (h : ∀ i, i < xs.length → okM (ge xs i)) {k : Nat} (hk : k ≤ xs.length) : (∃ s, fifoS xs k = some s) ↔ ∀ j, j ≤ k → 0 ≤ cwd xs j := by
  induction k with
  | zero =>
    constructor
    · intro _ j hj
      obtain rfl : j = 0 := by omega
      exact Int.le_refl _
    · intro _; exact ⟨_, rfl⟩
  | succ k ih =>
    have ih := ih (by omega)
    have hm := h k (by omega)
    show (∃ s, (fifoS xs k).bind (fun s => fstep s (ge xs k)) = some s) ↔ _
    cases ht : fifoS xs k with
    | none =>
      constructor
      · rintro ⟨s, e⟩; cases e
      · intro hj
        have := ih.2 fun j hj' => hj j (by omega)
        rw [ht] at this
        obtain ⟨s, e⟩ := this
        cases e
    | some t =>
      have hc := fifoS_ok h (by omega) ht
      have hl := ih.1 ⟨t, ht⟩
      have hb := lots_bd hc.ok
      show (∃ s, fstep t (ge xs k) = some s) ↔ _
      have key : (∃ s, fstep t (ge xs k) = some s) ↔ 0 ≤ cwd xs (k + 1) := by
        show _ ↔ 0 ≤ cwd xs k + (ge xs k).1
        rw [← hc.cnt]
        unfold fstep
        split
        · refine ⟨fun _ => by omega, fun _ => ⟨_, rfl⟩⟩
        · cases hq : takeF t.1 (-(ge xs k).1) with
          | none =>
            have := (takeF_iff hc.ok (by omega)).1 hq
            refine ⟨fun ⟨s, e⟩ => (by cases e), fun h' => by omega⟩
          | some q =>
            have hne : ¬ (cnt t.1 < -(ge xs k).1) := fun h' => by
              have := (takeF_iff hc.ok (by omega)).2 h'
              rw [hq] at this; cases this
            refine ⟨fun _ => by omega, fun _ => ⟨_, rfl⟩⟩
      rw [key]
      constructor
      · intro h' j hj
        by_cases e : j = k + 1
        · subst e; exact h'
        · exact hl j (by omega)
      · intro h'; exact h' _ (Nat.le_refl _)

/-- by the mean: what n of C pieces cost that cost K -/
def mcost (C K n : Int) : Int := K / C * n + rnd (K % C * n) C 2
theorem rnd2_shift (c e d : Int) (hd : 1 ≤ d) (hc : 0 ≤ c) (he : 0 ≤ e) : rnd (d * c + e) d 2 = c + rnd e d 2 := by
  have h1 : (d * c + e) / d = c + e / d := by rw [Int.add_comm, Int.add_mul_ediv_left _ _ (by omega), Int.add_comm]
  have h2 : (d * c + e) % d = e % d := by rw [Int.add_comm, Int.add_mul_emod_self_left]
  have h3 : 0 ≤ d * c := Int.mul_nonneg (by omega) hc
  rw [rnd_2, rnd_2, h1, h2]
  have h4 : 0 ≤ e % d := Int.emod_nonneg _ (by omega)
  have h5 : 2 * (e % d) = d → 0 < e := fun h => by
    rcases Int.lt_or_eq_of_le he with h' | h'
    · exact h'
    · rw [← h'] at h; simp at h; omega
  by_cases t : d < 2 * (e % d) ∨ 2 * (e % d) = d ∧ 0 < e
  · rw [if_pos t, if_pos (by omega)]; omega
  · rw [if_neg t, if_neg (show ¬ (d < 2 * (e % d) ∨ 2 * (e % d) = d ∧ 0 < d * c + e) from fun h => h.elim (fun h => t (.inl h)) (fun h => t (.inr ⟨h.1, h5 h.1⟩)))]; omega
theorem mcost_rnd (C K n : Int) (hC : 1 ≤ C) (hK : 0 ≤ K) (hn : 0 ≤ n) : mcost C K n = rnd (K * n) C 2 := by
  have h1 : 0 ≤ K / C * n := Int.mul_nonneg (Int.ediv_nonneg hK (by omega)) hn
  have h2 : 0 ≤ K % C * n := Int.mul_nonneg (Int.emod_nonneg _ (by omega)) hn
  have h3 : K * n = C * (K / C * n) + K % C * n := by
    have := div_mod K C
    calc K * n = (C * (K / C) + K % C) * n := by rw [this]
      _ = C * (K / C * n) + K % C * n := by rw [Int.add_mul, Int.mul_assoc]
  rw [h3, rnd2_shift _ _ _ hC h1 h2]; rfl
theorem mcost_bd (C K n : Int) (hC : 1 ≤ C) (hK : 0 ≤ K) (hn : 0 ≤ n) (hnC : n ≤ C) : 0 ≤ mcost C K n ∧ mcost C K n ≤ K := by
  rw [mcost_rnd C K n hC hK hn]
  refine ⟨le_rnd _ _ _ _ hC (by rw [Int.mul_zero]; exact Int.mul_nonneg hK hn), rnd_le _ _ _ _ hC ?_⟩
  rw [Int.mul_comm C K]
  exact Int.mul_le_mul_of_nonneg_left hnC hK
theorem mcost_all (C K : Int) (hC : 1 ≤ C) (hK : 0 ≤ K) : mcost C K C = K := by
  rw [mcost_rnd C K C hC hK (by omega), Int.mul_comm]
  exact rnd_exact C 2 K hC
def mstep (s : Int × Int × List Int) (m : Pr) : Option (Int × Int × List Int) := if 0 < m.1 then some (s.1 + m.1, s.2.1 + m.2, s.2.2) else if s.1 < -m.1 then none else some (s.1 + m.1, s.2.1 - mcost s.1 s.2.1 (-m.1), s.2.2 ++ [mcost s.1 s.2.1 (-m.1)])
def meanS (xs : List Pr) : Nat → Option (Int × Int × List Int)
  | 0 => some (0, 0, [])
  | k + 1 => (meanS xs k).bind fun s => mstep s (ge xs k)
structure MOk (xs : List Pr) (k : Nat) (s : Int × Int × List Int) : Prop where
  cnt : s.1 = cwd xs k
  cst : s.2.1 + s.2.2.sum = kwd xs k
  c0 : 0 ≤ s.1
  c1 : s.1 ≤ 1000000 * k
  k0 : 0 ≤ s.2.1
  k1 : s.2.1 ≤ 1000000000000 * k
  nil : s.1 = 0 → s.2.1 = 0
  nn : ∀ x ∈ s.2.2, 0 ≤ x
  outs : s.2.2.length = negs xs k
theorem meanS_ok {xs : List Pr} (h : ∀ i, i < xs.length → okM (ge xs i)) {k : Nat} (hk : k ≤ xs.length) {s : Int × Int × List Int} (e : meanS xs k = some s) : MOk xs k s := by
  induction k generalizing s with
  | zero =>
    injection e with e
    subst e
    exact ⟨rfl, rfl, Int.le_refl _, Int.le_refl _, Int.le_refl _, Int.le_refl _, fun _ => rfl, fun x hx => (by cases hx), rfl⟩
  | succ k ih =>
    have hm := h k (by omega)
    change (meanS xs k).bind (fun s => mstep s (ge xs k)) = some s at e
    cases ht : meanS xs k with
    | none => rw [ht] at e; cases e
    | some t =>
      rw [ht] at e
      change mstep t (ge xs k) = some s at e
      obtain ⟨i1, i2, i3, i4, i5, i6, i7, i8, i9⟩ := ih (by omega) ht
      unfold mstep at e
      unfold okM at hm
      split at e
      · rename_i hp
        injection e with e
        subst e
        refine ⟨?_, ?_, ?_, ?_, ?_, ?_, ?_, i8, ?_⟩
        · show t.1 + (ge xs k).1 = cwd xs k + (ge xs k).1; omega
        · show t.2.1 + (ge xs k).2 + t.2.2.sum = kwd xs k + (ge xs k).2; omega
        · show 0 ≤ t.1 + (ge xs k).1; omega
        · show t.1 + (ge xs k).1 ≤ 1000000 * ((k + 1 : Nat) : Int); omega
        · show 0 ≤ t.2.1 + (ge xs k).2; omega
        · show t.2.1 + (ge xs k).2 ≤ 1000000000000 * ((k + 1 : Nat) : Int); omega
        · show t.1 + (ge xs k).1 = 0 → _; intro h'; omega
        · show t.2.2.length = negs xs k + if (ge xs k).1 < 0 then 1 else 0; rw [if_neg (by omega)]; omega
      · rename_i hp
        split at e
        · cases e
        · rename_i hs
          injection e with e
          subst e
          have hb := mcost_bd t.1 t.2.1 (-(ge xs k).1) (by omega) i5 (by omega) (by omega)
          refine ⟨?_, ?_, ?_, ?_, ?_, ?_, ?_, fun x hx => ?_, ?_⟩
          · show t.1 + (ge xs k).1 = cwd xs k + (ge xs k).1; omega
          · show t.2.1 - mcost t.1 t.2.1 (-(ge xs k).1) + (t.2.2 ++ [mcost t.1 t.2.1 (-(ge xs k).1)]).sum = kwd xs k + (ge xs k).2; rw [List.sum_append]; simp; omega
          · show 0 ≤ t.1 + (ge xs k).1; omega
          · show t.1 + (ge xs k).1 ≤ 1000000 * ((k + 1 : Nat) : Int); omega
          · show 0 ≤ t.2.1 - mcost t.1 t.2.1 (-(ge xs k).1); omega
          · show t.2.1 - mcost t.1 t.2.1 (-(ge xs k).1) ≤ 1000000000000 * ((k + 1 : Nat) : Int); omega
          · show t.1 + (ge xs k).1 = 0 → t.2.1 - mcost t.1 t.2.1 (-(ge xs k).1) = 0
            intro h'
            have e' : -(ge xs k).1 = t.1 := by omega
            rw [e', mcost_all _ _ (by omega) i5]; omega
          · rcases List.mem_append.1 hx with hx | hx
            · exact i8 x hx
            · rw [List.mem_singleton.1 hx]; exact hb.1
          · show (t.2.2 ++ [mcost t.1 t.2.1 (-(ge xs k).1)]).length = negs xs k + if (ge xs k).1 < 0 then 1 else 0; rw [if_pos (by omega), List.length_append]; simp; omega
theorem meanS_iff {xs : List Pr} (h : ∀ i, i < xs.length → okM (ge xs i)) {k : Nat} (hk : k ≤ xs.length) : (∃ s, meanS xs k = some s) ↔ ∀ j, j ≤ k → 0 ≤ cwd xs j := by
  induction k with
  | zero =>
    constructor
    · intro _ j hj
      obtain rfl : j = 0 := by omega
      exact Int.le_refl _
    · intro _; exact ⟨_, rfl⟩
  | succ k ih =>
    have ih := ih (by omega)
    have hm := h k (by omega)
    show (∃ s, (meanS xs k).bind (fun s => mstep s (ge xs k)) = some s) ↔ _
    cases ht : meanS xs k with
    | none =>
      constructor
      · rintro ⟨s, e⟩; cases e
      · intro hj
        have := ih.2 fun j hj' => hj j (by omega)
        rw [ht] at this
        obtain ⟨s, e⟩ := this
        cases e
    | some t =>
      have hc := meanS_ok h (by omega) ht
      have hl := ih.1 ⟨t, ht⟩
      show (∃ s, mstep t (ge xs k) = some s) ↔ _
      have key : (∃ s, mstep t (ge xs k) = some s) ↔ 0 ≤ cwd xs (k + 1) := by
        show _ ↔ 0 ≤ cwd xs k + (ge xs k).1
        have := hc.cnt
        have := hc.c0
        unfold mstep
        split
        · exact ⟨fun _ => by omega, fun _ => ⟨_, rfl⟩⟩
        · split
          · exact ⟨fun ⟨s, e⟩ => (by cases e), fun h' => by omega⟩
          · exact ⟨fun _ => by omega, fun _ => ⟨_, rfl⟩⟩
      rw [key]
      constructor
      · intro h' j hj
        by_cases e : j = k + 1
        · subst e; exact h'
        · exact hl j (by omega)
      · intro h'; exact h' _ (Nat.le_refl _)

end Go.Proofs.Ytnahbblglalagaa
