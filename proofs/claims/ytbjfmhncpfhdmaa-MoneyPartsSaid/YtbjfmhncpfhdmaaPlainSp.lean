/- The plain law of Hamilton's parts: shares rounded down, and one more to each of those that lost most. No program in sight. -/
import Derived.Test.YtbjfmhncpfhdmaaPlainV
namespace Go.Proofs.Ytbjfmhncpfhdmaa
open Stb
set_option linter.unusedVariables false

/-- 0, 1, .. -/
def idx (n : Nat) : List Int := (List.range n).map Int.ofNat
theorem idx_len (n : Nat) : (idx n).length = n := by simp [idx]
theorem mem_idx {n : Nat} {x : Int} : x ∈ idx n ↔ ∃ i : Nat, i < n ∧ x = (i : Int) := by
  simp [idx, eq_comm]
theorem idx_nodup (n : Nat) : (idx n).Nodup := by
  unfold idx List.Nodup
  rw [List.pairwise_map]
  exact (List.nodup_range (n := n)).imp fun h e => h (Int.ofNat.inj e)
theorem idx_succ (n : Nat) : idx (n + 1) = idx n ++ [(n : Int)] := by simp [idx, List.range_succ]
/-- the sum of f over 0 .. n-1 -/
def sumr (n : Nat) (f : Nat → Int) : Int := ((List.range n).map f).sum
theorem sumr_zero (f : Nat → Int) : sumr 0 f = 0 := rfl
theorem sumr_succ (n : Nat) (f : Nat → Int) : sumr (n + 1) f = sumr n f + f n := by
  simp [sumr, List.range_succ]
theorem sumr_add (n : Nat) (f g : Nat → Int) : sumr n (fun i => f i + g i) = sumr n f + sumr n g := by
  induction n with
  | zero => rfl
  | succ n ih => rw [sumr_succ, sumr_succ, sumr_succ, ih]; omega
theorem sumr_mul (n : Nat) (c : Int) (f : Nat → Int) : sumr n (fun i => c * f i) = c * sumr n f := by
  induction n with
  | zero => simp [sumr]
  | succ n ih => rw [sumr_succ, sumr_succ, ih, Int.mul_add]
theorem sumr_congr {n : Nat} {f g : Nat → Int} (h : ∀ i, i < n → f i = g i) : sumr n f = sumr n g := by
  induction n with
  | zero => rfl
  | succ n ih => rw [sumr_succ, sumr_succ, ih fun i hi => h i (by omega), h n (by omega)]
theorem sumr_le {n : Nat} {f g : Nat → Int} (h : ∀ i, i < n → f i ≤ g i) : sumr n f ≤ sumr n g := by
  induction n with
  | zero => exact Int.le_refl _
  | succ n ih => rw [sumr_succ, sumr_succ]; have := ih fun i hi => h i (by omega); have := h n (by omega); omega
theorem sumr_const (n : Nat) (c : Int) : sumr n (fun _ => c) = n * c := by
  induction n with
  | zero => simp [sumr]
  | succ n ih => rw [sumr_succ, ih, Int.natCast_add, Int.add_mul]; simp
theorem sumr_one {n j : Nat} (hj : j < n) : sumr n (fun i => if (i : Int) = (j : Int) then 1 else 0) = 1 := by
  induction n with
  | zero => omega
  | succ n ih =>
    rw [sumr_succ]
    by_cases e : j = n
    · subst e
      rw [if_pos rfl, sumr_congr (g := fun _ => 0) (fun i hi => by rw [if_neg (by omega)]), sumr_const]; simp
    · rw [ih (by omega), if_neg (by omega)]; simp
theorem sum_getD (l : List Int) : sumr l.length (fun i => l.getD i 0) = l.sum := by
  have : (List.range l.length).map (fun i => l.getD i 0) = l := by
    apply List.ext_getElem (by simp)
    intro i h1 h2
    simp [List.getD_eq_getElem?_getD, h2]
  unfold sumr
  rw [this]
theorem count_sum (n : Nat) (L : List Int) (h : ∀ x ∈ L, x ∈ idx n) : sumr n (fun i => (L.count (i : Int) : Int)) = L.length := by
  induction L with
  | nil => simp [sumr_const]
  | cons x L ih =>
    obtain ⟨j, hj, rfl⟩ := mem_idx.1 (h x (by simp))
    have e : ∀ i : Nat, ((List.count (i : Int) ((j : Int) :: L) : Nat) : Int) = (List.count (i : Int) L : Nat) + if (i : Int) = (j : Int) then 1 else 0 := fun i => by
      rw [List.count_cons]
      by_cases c : (i : Int) = (j : Int)
      · simp [c]
      · have : ¬ (j : Int) = (i : Int) := fun h => c h.symm
        simp [c, this]
    rw [sumr_congr (fun i _ => e i), sumr_add, ih fun y hy => h y (by simp [hy]), sumr_one hj]
    simp

/-- those that lose most stand first -/
def skey (a S : Int) (l : List Int) (x : Int) : Int := -(a * l.getD x.toNat 0 % S)
def flos (a S : Int) (l : List Int) : Int := sumr l.length fun i => a * l.getD i 0 / S
def rems (a S : Int) (l : List Int) : Int := sumr l.length fun i => a * l.getD i 0 % S
def left (a S : Int) (l : List Int) : Int := a - flos a S l
structure Ordp (a S : Int) (l ys : List Int) : Prop where
  len : ys.length = l.length
  srt : Srt (skey a S l) ys
  same : Same (skey a S l) ys (idx l.length)
def prt (a S : Int) (l ys : List Int) (i : Nat) : Int := a * l.getD i 0 / S + (((ys.take (left a S l).toNat).count (i : Int) : Nat) : Int)
def prts (a S : Int) (l ys : List Int) : List Int := (List.range l.length).map (prt a S l ys)

theorem flos_rems (a S : Int) (l : List Int) : S * flos a S l + rems a S l = a * l.sum := by
  unfold flos rems
  rw [← sumr_mul, ← sumr_add, sumr_congr (fun i _ => Int.mul_ediv_add_emod (a * l.getD i 0) S), sumr_mul, sum_getD]
theorem left_rems (a : Int) (l : List Int) : l.sum * left a l.sum l = rems a l.sum l := by
  have := flos_rems a l.sum l
  unfold left
  rw [Int.mul_sub, Int.mul_comm l.sum a]; omega

theorem psum_eq {xs ys : List Int} (h : xs.Perm ys) : xs.sum = ys.sum := by
  induction h with
  | nil => rfl
  | cons x _ ih => simp [ih]
  | swap x y l => simp; omega
  | trans _ _ h1 h2 => exact h1.trans h2
theorem same_count {key : Int → Int} {xs ys : List Int} (h : Same key xs ys) (x : Int) : xs.count x = ys.count x := by
  have e : ∀ l : List Int, l.count x = (l.filter fun y => decide (key y = key x)).count x := fun l => by rw [List.count_filter (by simp)]
  rw [e xs, e ys, h (key x)]

section
variable {a S : Int} {l ys : List Int} (ho : Ordp a S l ys)
include ho
theorem Ordp.count (i : Nat) (hi : i < l.length) : ys.count (i : Int) = 1 := by
  rw [same_count ho.same]
  exact Nat.le_antisymm (List.nodup_iff_count.1 (idx_nodup _) _) (List.count_pos_iff.2 (mem_idx.2 ⟨i, hi, rfl⟩))
theorem Ordp.mem {x : Int} (h : x ∈ ys) : ∃ i : Nat, i < l.length ∧ x = (i : Int) := mem_idx.1 (ho.same.mem h)
theorem Ordp.le_one (i k : Nat) (hi : i < l.length) : (ys.take k).count (i : Int) ≤ 1 := by
  have := (List.take_sublist k ys).count_le (i : Int)
  rw [ho.count i hi] at this; exact this
theorem Ordp.first (i j k : Nat) (hi : i < l.length) (hj : j < l.length) (h : skey a S l i < skey a S l j) : (ys.take k).count (j : Int) ≤ (ys.take k).count (i : Int) := by
  by_cases c : (j : Int) ∈ ys.take k
  · have : (i : Int) ∈ ys.take k := by
      have m : (i : Int) ∈ ys := List.count_pos_iff.1 (by rw [ho.count i hi]; omega)
      rw [← List.take_append_drop k ys] at m
      rcases List.mem_append.1 m with m | m
      · exact m
      · have s := ho.srt
        rw [← List.take_append_drop k ys] at s
        have := (Srt.append.1 s).2.2 _ c _ m
        omega
    have h1 := List.count_pos_iff.2 this
    have h2 := ho.le_one j k hj
    omega
  · rw [List.count_eq_zero.2 c]; omega
theorem Ordp.perm_sum (f : Nat → Int) : (ys.map fun x => f x.toNat).sum = sumr l.length f := by
  have hp : ys.Perm (idx l.length) := List.perm_iff_count.2 fun x => same_count ho.same x
  have h2 := psum_eq (hp.map fun x => f x.toNat)
  rw [h2]
  unfold idx sumr
  rw [List.map_map]; rfl
end

theorem sum_bound (L : List Int) (f : Int → Int) (M : Int) (h : ∀ x ∈ L, f x ≤ M) : (L.map f).sum ≤ M * L.length := by
  induction L with
  | nil => simp
  | cons x L ih =>
    have a := h x (by simp)
    have b := ih fun y hy => h y (by simp [hy])
    simp only [List.map_cons, List.sum_cons, List.length_cons]
    have : M * ((L.length + 1 : Nat) : Int) = M * L.length + M := by rw [Int.natCast_add, Int.mul_add]; simp
    omega
theorem sum_bound_one (L : List Int) (f : Int → Int) (M : Int) (hM : 0 ≤ M) (h : ∀ x ∈ L, f x ≤ M) (z : Int) (hz : z ∈ L) (h0 : f z ≤ 0) : (L.map f).sum + M ≤ M * L.length := by
  induction L with
  | nil => simp at hz
  | cons x L ih =>
    simp only [List.map_cons, List.sum_cons, List.length_cons]
    have e : M * ((L.length + 1 : Nat) : Int) = M * L.length + M := by rw [Int.natCast_add, Int.mul_add]; simp
    rcases List.mem_cons.1 hz with rfl | hz
    · have b := sum_bound L f M fun y hy => h y (by simp [hy])
      omega
    · have a := h x (by simp)
      have b := ih (fun y hy => h y (by simp [hy])) hz
      omega

section
variable {a : Int} {l ys : List Int} (ho : Ordp a l.sum l ys) (hS : 0 < l.sum)
include hS
theorem rems_nonneg : 0 ≤ rems a l.sum l := by
  have := sumr_le (n := l.length) (f := fun _ => 0) (g := fun i => a * l.getD i 0 % l.sum) fun i _ => Int.emod_nonneg _ (by omega)
  rw [sumr_const] at this
  unfold rems; omega
theorem left_nonneg : 0 ≤ left a l.sum l := by
  have h := left_rems a l
  have h2 := rems_nonneg (a := a) hS
  rcases Int.lt_or_le (left a l.sum l) 0 with c | c
  · have := Int.mul_neg_of_pos_of_neg hS c
    omega
  · exact c
theorem left_le : left a l.sum l ≤ l.length := by
  have h := left_rems a l
  have h2 : rems a l.sum l ≤ l.length * (l.sum - 1) := by
    have := sumr_le (n := l.length) (f := fun i => a * l.getD i 0 % l.sum) (g := fun _ => l.sum - 1) fun i _ => by
      have := Int.emod_lt_of_pos (a * l.getD i 0) hS
      omega
    rw [sumr_const] at this
    exact this
  rcases Int.lt_or_le (l.length : Int) (left a l.sum l) with c | c
  · have h3 : l.sum * (l.length : Int) ≤ l.sum * left a l.sum l := Int.mul_le_mul_of_nonneg_left (by omega) (by omega)
    have h4 : (l.length : Int) * (l.sum - 1) = l.sum * (l.length : Int) - l.length := by rw [Int.mul_sub, Int.mul_comm]; simp
    have h5 : l.sum * ((l.length : Int) + 1) ≤ l.sum * left a l.sum l := Int.mul_le_mul_of_nonneg_left (by omega) (by omega)
    rw [Int.mul_add] at h5
    omega
  · exact c
include ho
theorem prts_sum : (prts a l.sum l ys).sum = a := by
  have h1 := left_nonneg (a := a) hS
  have h2 := left_le (a := a) hS
  have e : (prts a l.sum l ys).sum = sumr l.length (prt a l.sum l ys) := rfl
  rw [e]
  unfold prt
  rw [sumr_add, count_sum _ _ (fun x hx => ho.same.mem (List.mem_of_mem_take hx)), List.length_take, ho.len]
  have : flos a l.sum l = a - left a l.sum l := by unfold left; omega
  show flos a l.sum l + _ = a
  omega
/-- who loses nothing gets nothing more -/
theorem no_more (i : Nat) (hi : i < l.length) (h : a * l.getD i 0 % l.sum = 0) : (ys.take (left a l.sum l).toNat).count (i : Int) = 0 := by
  have l1 := left_nonneg (a := a) hS
  have l2 := left_le (a := a) hS
  rcases Nat.eq_zero_or_pos ((ys.take (left a l.sum l).toNat).count (i : Int)) with c | c
  · exact c
  · exfalso
    have m := List.count_pos_iff.1 c
    have hs := ho.srt
    rw [← List.take_append_drop (left a l.sum l).toNat ys] at hs
    have hd := (Srt.append.1 hs).2.2
    have hk : skey a l.sum l (i : Int) = 0 := by unfold skey; rw [Int.toNat_natCast, h]; rfl
    have p := ho.perm_sum fun i => a * l.getD i 0 % l.sum
    rw [← List.take_append_drop (left a l.sum l).toNat ys, List.map_append, List.sum_append_int] at p
    have b1 := sum_bound_one (ys.take (left a l.sum l).toNat) (fun x => a * l.getD x.toNat 0 % l.sum) (l.sum - 1) (by omega) (fun x _ => by have := Int.emod_lt_of_pos (a * l.getD x.toNat 0) hS; omega) (i : Int) m (by show a * l.getD (Int.toNat (i : Int)) 0 % l.sum ≤ 0; rw [Int.toNat_natCast]; omega)
    have b2 := sum_bound (ys.drop (left a l.sum l).toNat) (fun x => a * l.getD x.toNat 0 % l.sum) 0 (fun x hx => by
      have := hd _ m x hx
      rw [hk] at this
      unfold skey at this
      show a * l.getD x.toNat 0 % l.sum ≤ 0
      omega)
    have e1 : ((ys.take (left a l.sum l).toNat).length : Int) = left a l.sum l := by rw [List.length_take, ho.len]; omega
    rw [e1] at b1
    have e2 := left_rems a l
    have e3 : (l.sum - 1) * left a l.sum l = l.sum * left a l.sum l - left a l.sum l := by rw [Int.sub_mul]; omega
    have e4 : 1 ≤ left a l.sum l := by
      rcases Int.lt_or_le (left a l.sum l) 1 with q | q
      · rw [show (left a l.sum l).toNat = 0 by omega] at m; simp at m
      · exact q
    change _ = rems a l.sum l at p
    omega
/-- each part is the share, rounded down or up -/
theorem prt_near (i : Nat) (hi : i < l.length) : -l.sum < prt a l.sum l ys i * l.sum - a * l.getD i 0 ∧ prt a l.sum l ys i * l.sum - a * l.getD i 0 < l.sum := by
  have h1 := ho.le_one i (left a l.sum l).toNat hi
  have h2 := no_more ho hS i hi
  have h3 := Int.mul_ediv_add_emod (a * l.getD i 0) l.sum
  have h4 := Int.emod_nonneg (a * l.getD i 0) (show l.sum ≠ 0 by omega)
  have h5 := Int.emod_lt_of_pos (a * l.getD i 0) hS
  unfold prt
  generalize (ys.take (left a l.sum l).toNat).count (i : Int) = c at *
  have e : (a * l.getD i 0 / l.sum + (c : Int)) * l.sum = l.sum * (a * l.getD i 0 / l.sum) + (c : Int) * l.sum := by rw [Int.add_mul, Int.mul_comm]
  rw [e]
  clear e
  generalize a * l.getD i 0 = p at *
  generalize l.sum * (p / l.sum) = q at *
  have hc : c = 0 ∨ c = 1 := by omega
  rcases hc with rfl | rfl
  · simp only [Int.natCast_zero, Int.zero_mul]; omega
  · by_cases z : p % l.sum = 0
    · have := h2 z; omega
    · simp only [Int.natCast_one, Int.one_mul]; omega
theorem prt_mono (i j : Nat) (hi : i < l.length) (hj : j < l.length) (ha : 0 ≤ a) (h : l.getD j 0 ≤ l.getD i 0) : l.getD j 0 < l.getD i 0 → prt a l.sum l ys j ≤ prt a l.sum l ys i := by
  intro hlt
  have m : a * l.getD j 0 ≤ a * l.getD i 0 := Int.mul_le_mul_of_nonneg_left h ha
  have d : a * l.getD j 0 / l.sum ≤ a * l.getD i 0 / l.sum := Int.ediv_le_ediv hS m
  have c1 := ho.le_one j (left a l.sum l).toNat hj
  unfold prt
  by_cases e : a * l.getD j 0 / l.sum = a * l.getD i 0 / l.sum
  · by_cases q : a * l.getD j 0 = a * l.getD i 0
    · -- the same: a is 0
      have a0 : a = 0 := by
        rcases Int.lt_or_le 0 a with p | p
        · have := Int.mul_lt_mul_of_pos_left hlt p
          omega
        · omega
      have z : left a l.sum l = 0 := by
        subst a0
        unfold left flos
        rw [sumr_congr (g := fun _ => 0) (fun i _ => by simp), sumr_const]; simp
      rw [z, e]; simp
    · have k : skey a l.sum l (i : Int) < skey a l.sum l (j : Int) := by
        unfold skey
        rw [Int.toNat_natCast, Int.toNat_natCast]
        have h3 := Int.mul_ediv_add_emod (a * l.getD i 0) l.sum
        have h4 := Int.mul_ediv_add_emod (a * l.getD j 0) l.sum
        rw [e] at h4
        omega
      have := ho.first i j (left a l.sum l).toNat hi hj k
      omega
  · omega
end

/-- weights that are all so many times as great are ordered alike -/
theorem ordp_scale {a S k : Int} {l ys : List Int} (hk : 0 < k) (h : Ordp a (k * S) (l.map (k * ·)) ys) : Ordp a S l ys := by
  have key : ∀ x, skey a (k * S) (l.map (k * ·)) x = k * skey a S l x := fun x => by
    unfold skey
    have e : (l.map (k * ·)).getD x.toNat 0 = k * l.getD x.toNat 0 := by
      rw [List.getD_eq_getElem?_getD, List.getD_eq_getElem?_getD, List.getElem?_map]
      cases l[x.toNat]? <;> simp
    rw [e, show a * (k * l.getD x.toNat 0) = k * (a * l.getD x.toNat 0) by rw [← Int.mul_assoc, ← Int.mul_assoc, Int.mul_comm a k], Int.mul_emod_mul_of_pos _ _ hk, Int.mul_neg]
  obtain ⟨h1, h2, h3⟩ := h
  rw [List.length_map] at h1 h3
  refine ⟨h1, ?_, fun c => ?_⟩
  · unfold Srt at h2 ⊢
    refine h2.imp fun {x y} h => ?_
    rw [key, key] at h
    exact Int.le_of_mul_le_mul_left h hk
  · have := h3 (k * c)
    have e : ∀ x, decide (skey a (k * S) (l.map (k * ·)) x = k * c) = decide (skey a S l x = c) := fun x => by
      rw [key]
      congr 1
      exact propext ⟨fun h => Int.eq_of_mul_eq_mul_left (by omega) h, fun h => by rw [h]⟩
    simp only [e] at this
    exact this
theorem prts_scale {a S k : Int} {l ys : List Int} (hk : 0 < k) : prts a (k * S) (l.map (k * ·)) ys = prts a S l ys := by
  have e : ∀ i : Nat, a * (l.map (k * ·)).getD i 0 / (k * S) = a * l.getD i 0 / S := fun i => by
    have e : (l.map (k * ·)).getD i 0 = k * l.getD i 0 := by
      rw [List.getD_eq_getElem?_getD, List.getD_eq_getElem?_getD, List.getElem?_map]
      cases l[i]? <;> simp
    rw [e, show a * (k * l.getD i 0) = k * (a * l.getD i 0) by rw [← Int.mul_assoc, ← Int.mul_assoc, Int.mul_comm a k], Int.mul_ediv_mul_of_pos _ _ hk]
  have e2 : left a (k * S) (l.map (k * ·)) = left a S l := by
    unfold left flos
    rw [List.length_map, sumr_congr fun i _ => e i]
  unfold prts
  rw [List.length_map]
  refine List.map_congr_left fun i _ => ?_
  unfold prt
  rw [e, e2]
theorem ordp_one {a S : Int} {l ys zs : List Int} (h : Ordp a S l ys) (h' : Ordp a S l zs) : ys = zs :=
  Srt.unique h.srt h'.srt (h.same.trans h'.same.symm)
theorem sum_scale (k : Int) (l : List Int) : (l.map (k * ·)).sum = k * l.sum := by
  induction l with
  | nil => simp
  | cons x l ih => simp only [List.map_cons, List.sum_cons, ih, Int.mul_add]

end Go.Proofs.Ytbjfmhncpfhdmaa
