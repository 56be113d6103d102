/- Rows of integers in memory: what a slice reads as; sums; the walks of talkeep.sum and slices.Equal. -/
import Derived.Test.YtdpphneebikdpaaPUnitsSumZ1
import Derived.Test.YtdpphneebikdpaaRows
import Derived.BigQuiet
import Derived.Deep.OwnRows
import Derived.Deep.QuietTactic
import Derived.Handy
import Derived.Lib.Hide
import Derived.OpenShut
import Derived.Outline
import Derived.ProofKit
import Derived.RegionTactic
import Derived.WalkKit
namespace Go.Proofs.Ytdpphneebikdpaa
open Go.ChangeShapes Go.WideShapes Go.ChangeAt Go.RowKit
set_option linter.unusedVariables false
set_option maxRecDepth 100000

/-- the cells of block b from o on read xs -/
def Row (w : World) (b o : Nat) (xs : List Int) : Prop := b < w.heap.size ∧ ∀ i, i < xs.length → w.cell? ⟨b, o + i, none⟩ = some (.int .i64 (xs.getD i 0))

theorem Row.more {w : World} {b o : Nat} {xs : List Int} {bs : List Obj} {k : Nat} (h : Row w b o xs) : Row (more w bs k) b o xs :=
  ⟨by rw [size_more]; have := h.1; omega, fun i hi => by rw [cell?_more _ _ _ _ _ h.1]; exact h.2 i hi⟩
theorem Row.drewN {w : World} {b o k : Nat} {xs : List Int} (h : Row w b o xs) : Row (w.drewN k) b o xs := h
theorem Row.drew {w : World} {b o : Nat} {xs : List Int} (h : Row w b o xs) : Row w.drew b o xs := h
theorem Row.alloc {w : World} {b o : Nat} {xs : List Int} {ob : Obj} (h : Row w b o xs) : Row (w.alloc ob) b o xs := by
  rw [alloc_more]; exact h.more
theorem Row.app {w : World} {b o : Nat} {xs : List Int} {bs cs : List Obj} {k n : Nat} (h : Row (Go.Proofs.Ytdpphneebikdpaa.more w bs k) b o xs) : Row (Go.Proofs.Ytdpphneebikdpaa.more w (bs ++ cs) n) b o xs := by
  rw [← more_more w bs cs k n]; exact h.more
theorem Row.draws {w : World} {b o : Nat} {xs : List Int} {bs : List Obj} {k n : Nat} (h : Row (Go.Proofs.Ytdpphneebikdpaa.more w bs k) b o xs) : Row (Go.Proofs.Ytdpphneebikdpaa.more w bs n) b o xs := h
/-- a row that was just written out -/
theorem row_lit {w : World} {b : Nat} {C : Array Value} {T : TypeId} (xs : List Int) (hb : b = w.heap.size) (hC : C = (xs.map (Value.int .i64)).toArray) : Row (w.alloc (.cells C T)) b 0 xs := by
  subst hb; subst hC
  refine ⟨by show w.heap.size < (w.heap.push _).size; simp, fun i hi => ?_⟩
  rw [Nat.zero_add, World.cell?_alloc_new]
  simp [List.getD_eq_getElem?_getD, hi]
/-- a part of a row -/
theorem Row.take {w : World} {b o k : Nat} {xs : List Int} (h : Row w b o xs) : Row w b o (xs.take k) := by
  refine ⟨h.1, fun i hi => ?_⟩
  rw [List.length_take] at hi
  rw [h.2 i (by omega)]
  rw [List.getD_eq_getElem?_getD, List.getD_eq_getElem?_getD, List.getElem?_take, if_pos (by omega)]
theorem sum_take_succ (xs : List Int) (k : Nat) (h : k < xs.length) : (xs.take (k + 1)).sum = (xs.take k).sum + xs.getD k 0 := by
  rw [List.take_succ_eq_append_getElem h, List.sum_append_int]
  simp [List.getD_eq_getElem?_getD, h]
theorem sum_bd (xs : List Int) (M : Int) (hM : 0 ≤ M) (h : ∀ x ∈ xs, -M ≤ x ∧ x ≤ M) : -(M * xs.length) ≤ xs.sum ∧ xs.sum ≤ M * xs.length := by
  induction xs with
  | nil => simp
  | cons x xs ih =>
    have a := h x (by simp)
    have b := ih (fun y hy => h y (by simp [hy]))
    simp only [List.sum_cons, List.length_cons]
    have : M * ((xs.length + 1 : Nat) : Int) = M * xs.length + M := by rw [Int.natCast_add, Int.mul_add]; simp
    omega
theorem sum_take_bd (xs : List Int) (k : Nat) (h : ∀ x ∈ xs, -1000000000000000 ≤ x ∧ x ≤ 1000000000000000) (hl : xs.length ≤ 1000) : -1000000000000000000 ≤ (xs.take k).sum ∧ (xs.take k).sum ≤ 1000000000000000000 := by
  have a := sum_bd (xs.take k) 1000000000000000 (by omega) (fun x hx => h x (List.mem_of_mem_take hx))
  have b : (xs.take k).length ≤ 1000 := by rw [List.length_take]; omega
  omega
theorem getD_bd (xs : List Int) (k : Nat) (M : Int) (hM : 0 ≤ M) (h : ∀ x ∈ xs, -M ≤ x ∧ x ≤ M) : -M ≤ xs.getD k 0 ∧ xs.getD k 0 ≤ M := by
  rw [List.getD_eq_getElem?_getD]
  by_cases hk : k < xs.length
  · rw [List.getElem?_eq_getElem hk]; exact h _ (List.getElem_mem hk)
  · rw [List.getElem?_eq_none (by omega)]; simp; omega

end Go.Proofs.Ytdpphneebikdpaa

/- Plain law of fall.Units: what is used up is written off, at once or in parts. -/
namespace Go.Proofs.Ytdpphneebikdpaa
open Go.ChangeShapes Go.WideShapes Go.ChangeAt Go.RowKit
set_option linter.unusedVariables false
set_option maxRecDepth 100000

/-- what is written off by the time s is used up -/
def unow (D t s : Int) : Int := D * min s t / t
def usum (us : List Int) (j : Nat) : Int := (us.take j).sum
def ulist (D t : Int) (us : List Int) (n : Nat) : List Int := (List.range n).map fun j => unow D t (usum us (j + 1)) - unow D t (usum us j)

theorem unow_zero (D t : Int) (ht : 1 ≤ t) : unow D t 0 = 0 := by
  unfold unow
  rw [show min (0 : Int) t = 0 by omega]
  simp
theorem unow_mono {D t s s' : Int} (hD : 0 ≤ D) (ht : 1 ≤ t) (h : s ≤ s') : unow D t s ≤ unow D t s' := by
  unfold unow
  exact Int.ediv_le_ediv (by omega) (Int.mul_le_mul_of_nonneg_left (by omega) hD)
theorem unow_all {D t s : Int} (ht : 1 ≤ t) (h : t ≤ s) : unow D t s = D := by
  unfold unow
  rw [show min s t = t by omega]
  exact Int.mul_ediv_cancel _ (by omega)
theorem unow_bd {D t s : Int} (hD : 0 ≤ D) (ht : 1 ≤ t) (h : 0 ≤ s) : 0 ≤ unow D t s ∧ unow D t s ≤ D := by
  have h1 := unow_mono (s := 0) (s' := s) hD ht h
  rw [unow_zero D t ht] at h1
  refine ⟨h1, ?_⟩
  by_cases hs : s ≤ t
  · have := unow_mono (s := s) (s' := t) hD ht hs
    rw [unow_all ht (Int.le_refl _)] at this; exact this
  · rw [unow_all ht (by omega)]; exact Int.le_refl _
theorem usum_succ (us : List Int) (j : Nat) (h : j < us.length) : usum us (j + 1) = usum us j + us.getD j 0 := sum_take_succ us j h
theorem usum_all (us : List Int) : usum us us.length = us.sum := by unfold usum; rw [List.take_length]
theorem usum_bd {us : List Int} (h : ∀ x ∈ us, 0 ≤ x ∧ x ≤ 1000000) (j : Nat) : 0 ≤ usum us j ∧ usum us j ≤ 1000000 * us.length := by
  unfold usum
  have h2 : ∀ l : List Int, (∀ x ∈ l, 0 ≤ x ∧ x ≤ 1000000) → 0 ≤ l.sum ∧ l.sum ≤ 1000000 * l.length := by
    intro l hl
    induction l with
    | nil => simp
    | cons x l ih =>
      have := ih fun y hy => hl y (List.mem_cons_of_mem _ hy)
      have := hl x (List.mem_cons_self ..)
      rw [List.sum_cons, List.length_cons]
      omega
  have h3 := h2 (us.take j) fun x hx => h x (List.mem_of_mem_take hx)
  have : (us.take j).length ≤ us.length := by rw [List.length_take]; omega
  omega
theorem ulist_len (D t : Int) (us : List Int) (n : Nat) : (ulist D t us n).length = n := by simp [ulist]
theorem ulist_succ (D t : Int) (us : List Int) (n : Nat) : ulist D t us (n + 1) = ulist D t us n ++ [unow D t (usum us (n + 1)) - unow D t (usum us n)] := by
  simp [ulist, List.range_succ]
theorem ulist_sum (D t : Int) (us : List Int) (n : Nat) (ht : 1 ≤ t) : (ulist D t us n).sum = unow D t (usum us n) := by
  induction n with
  | zero =>
    have e : usum us 0 = 0 := by simp [usum]
    rw [e, unow_zero D t ht]; rfl
  | succ n ih => rw [ulist_succ, List.sum_append, ih]; simp; omega
theorem ulist_get (D t : Int) (us : List Int) (n i : Nat) (h : i < n) : (ulist D t us n).getD i 0 = unow D t (usum us (i + 1)) - unow D t (usum us i) := by
  simp [ulist, List.getD_eq_getElem?_getD, h]
theorem usum_mono {us : List Int} (h : ∀ x ∈ us, 0 ≤ x ∧ x ≤ 1000000) (j : Nat) : usum us j ≤ usum us (j + 1) := by
  by_cases hj : j < us.length
  · rw [usum_succ us j hj]
    have : 0 ≤ us.getD j 0 := by
      rw [List.getD_eq_getElem?_getD, List.getElem?_eq_getElem hj]
      exact (h _ (List.getElem_mem hj)).1
    omega
  · unfold usum
    rw [List.take_of_length_le (by omega), List.take_of_length_le (by omega)]
    exact Int.le_refl _
theorem ulist_bd {D t : Int} {us : List Int} {n : Nat} (hD : 0 ≤ D) (ht : 1 ≤ t) (h : ∀ x ∈ us, 0 ≤ x ∧ x ≤ 1000000) : ∀ x ∈ ulist D t us n, 0 ≤ x ∧ x ≤ D := by
  intro x hx
  unfold ulist at hx
  obtain ⟨j, _, rfl⟩ := List.mem_map.1 hx
  have h1 := unow_bd (s := usum us (j + 1)) hD ht (usum_bd h _).1
  have h2 := unow_bd (s := usum us j) hD ht (usum_bd h _).1
  have h3 := unow_mono (D := D) (t := t) hD ht (usum_mono h j)
  omega
/-- one use in two parts -/
def twoL (us : List Int) (i : Nat) (k : Int) : List Int := us.take i ++ k :: (us.getD i 0 - k) :: us.drop (i + 1)
theorem twoL_len {us : List Int} {i : Nat} (h : i < us.length) (k : Int) : (twoL us i k).length = us.length + 1 := by
  simp [twoL]; omega
theorem drop_one (us : List Int) (i : Nat) (h : i < us.length) : us.drop i = us.getD i 0 :: us.drop (i + 1) := by
  rw [List.drop_eq_getElem_cons h, List.getD_eq_getElem?_getD, List.getElem?_eq_getElem h]; rfl
/-- as the call makes it: put in, then lessened -/
theorem twoL_made {us : List Int} {i : Nat} (h : i < us.length) (k : Int) : (us.take i ++ k :: us.drop i).set (i + 1) (us.getD i 0 - k) = twoL us i k := by
  rw [drop_one us i h, List.set_append_right _ _ (by rw [List.length_take]; omega), List.length_take, show i + 1 - min i us.length = 1 by omega]
  rfl
theorem ins_get {us : List Int} {i : Nat} (h : i < us.length) (k : Int) : (us.take i ++ k :: us.drop i).getD (i + 1) 0 = us.getD i 0 := by
  rw [drop_one us i h, List.getD_eq_getElem?_getD, List.getElem?_append_right (by rw [List.length_take]; omega), List.length_take, show i + 1 - min i us.length = 1 by omega]
  rfl
theorem two_ok {us : List Int} {i : Nat} (h : i < us.length) {k : Int} (hk : 0 ≤ k) (hk2 : k ≤ us.getD i 0) (hu : ∀ x ∈ us, 0 ≤ x ∧ x ≤ 1000000) : ∀ x ∈ twoL us i k, 0 ≤ x ∧ x ≤ 1000000 := by
  have hi : 0 ≤ us.getD i 0 ∧ us.getD i 0 ≤ 1000000 := by
    rw [List.getD_eq_getElem?_getD, List.getElem?_eq_getElem h]
    exact hu _ (List.getElem_mem h)
  intro x hx
  unfold twoL at hx
  rcases List.mem_append.1 hx with hx | hx
  · exact hu x (List.mem_of_mem_take hx)
  · rcases List.mem_cons.1 hx with rfl | hx
    · omega
    · rcases List.mem_cons.1 hx with rfl | hx
      · omega
      · exact hu x (List.mem_of_mem_drop hx)
theorem two_lo {us : List Int} {i : Nat} (h : i < us.length) (k : Int) (j : Nat) (hj : j ≤ i) : usum (twoL us i k) j = usum us j := by
  unfold usum twoL
  rw [List.take_append_of_le_length (by rw [List.length_take]; omega), List.take_take, show min j i = j by omega]
theorem two_hi {us : List Int} {i : Nat} (h : i < us.length) (k : Int) (j : Nat) (hj : i + 1 ≤ j) : usum (twoL us i k) (j + 1) = usum us j := by
  obtain ⟨q, rfl⟩ : ∃ q, j = i + 1 + q := ⟨j - (i + 1), by omega⟩
  unfold usum twoL
  have e1 : (us.take i ++ k :: (us.getD i 0 - k) :: us.drop (i + 1)).take (i + 1 + q + 1) = us.take i ++ k :: (us.getD i 0 - k) :: (us.drop (i + 1)).take q := by
    rw [List.take_append, List.take_of_length_le (by rw [List.length_take]; omega), List.length_take, show i + 1 + q + 1 - min i us.length = q + 2 by omega]
    rfl
  have e2 : us.take (i + 1 + q) = us.take i ++ us.getD i 0 :: (us.drop (i + 1)).take q := by
    conv => lhs; rw [← List.take_append_drop i us]
    rw [List.take_append, List.take_of_length_le (by rw [List.length_take]; omega), List.length_take, show i + 1 + q - min i us.length = q + 1 by omega, drop_one us i h]
    rfl
  rw [e1, e2]
  simp only [List.sum_append, List.sum_cons]
  omega
/-- what the parts come to, taken together, is what it was at once -/
theorem two_same {D t : Int} {us : List Int} {i : Nat} (h : i < us.length) (k : Int) :
    ((ulist D t (twoL us i k) (us.length + 1)).set (i + 1) ((ulist D t (twoL us i k) (us.length + 1)).getD (i + 1) 0 + (ulist D t (twoL us i k) (us.length + 1)).getD i 0)).take i ++
      ((ulist D t (twoL us i k) (us.length + 1)).set (i + 1) ((ulist D t (twoL us i k) (us.length + 1)).getD (i + 1) 0 + (ulist D t (twoL us i k) (us.length + 1)).getD i 0)).drop (i + 1) = ulist D t us us.length := by
  have hl := ulist_len D t (twoL us i k) (us.length + 1)
  have hv : (ulist D t (twoL us i k) (us.length + 1)).getD (i + 1) 0 + (ulist D t (twoL us i k) (us.length + 1)).getD i 0 = unow D t (usum us (i + 1)) - unow D t (usum us i) := by
    rw [ulist_get _ _ _ _ _ (by omega), ulist_get _ _ _ _ _ (by omega), two_hi h k (i + 1) (Nat.le_refl _), two_lo h k i (Nat.le_refl _)]
    omega
  rw [hv]
  apply List.ext_getElem
  · rw [List.length_append, List.length_take, List.length_drop, List.length_set, hl, ulist_len]; omega
  · intro j h1 h2
    rw [ulist_len] at h2
    rw [List.getElem_append]
    have er : (ulist D t us us.length)[j] = unow D t (usum us (j + 1)) - unow D t (usum us j) := by simp [ulist]
    rw [er]
    split
    · rename_i hj
      have hj' : j < i := by rw [List.length_take] at hj; omega
      rw [List.getElem_take, List.getElem_set_ne (by omega)]
      have : (ulist D t (twoL us i k) (us.length + 1))[j]'(by rw [hl]; omega) = unow D t (usum (twoL us i k) (j + 1)) - unow D t (usum (twoL us i k) j) := by simp [ulist]
      rw [this, two_lo h k (j + 1) (by omega), two_lo h k j (by omega)]
    · rename_i hj
      have hj' : i ≤ j := by rw [List.length_take, List.length_set, hl] at hj; omega
      have hlt : (((ulist D t (twoL us i k) (us.length + 1)).set (i + 1) (unow D t (usum us (i + 1)) - unow D t (usum us i))).take i).length = i := by
        rw [List.length_take, List.length_set, hl]; omega
      rw [List.getElem_drop, List.getElem_set]
      simp only [hlt]
      by_cases e : i = j
      · subst e
        rw [if_pos (by omega)]
      · rw [if_neg (by omega)]
        have : (ulist D t (twoL us i k) (us.length + 1))[i + 1 + (j - i)]'(by rw [hl]; omega) = unow D t (usum (twoL us i k) (i + 1 + (j - i) + 1)) - unow D t (usum (twoL us i k) (i + 1 + (j - i))) := by simp [ulist]
        rw [this, show i + 1 + (j - i) + 1 = (j + 1) + 1 by omega, two_hi h k (j + 1) (by omega), show i + 1 + (j - i) = j + 1 by omega, two_hi h k j (by omega)]

end Go.Proofs.Ytdpphneebikdpaa
