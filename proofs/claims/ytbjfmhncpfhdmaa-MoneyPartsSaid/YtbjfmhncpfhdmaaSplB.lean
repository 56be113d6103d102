/- The walk of split.By. -/
import Derived.Test.YtbjfmhncpfhdmaaSplA
namespace Go.Proofs.Ytbjfmhncpfhdmaa
open Go.ChangeShapes Go.WideShapes Go.ChangeAt Go.RowKit Stb
set_option linter.unusedVariables false

/-- in which order parts get one more -/
def pord (a : Int) (l : List Int) : List Int := isort (skey a l.sum l) (idx l.length)
theorem pord_ok (a : Int) (l : List Int) : Ordp a l.sum l (pord a l) := ⟨by unfold pord; rw [isort_len, idx_len], isort_srt _, isort_same _⟩
/-- the parts -/
def byl (A : Int) (l : List Int) : List Int := if 0 ≤ A then prts A l.sum l (pord A l) else (prts (-A) l.sum l (pord (-A) l)).map fun x => -x
/-- what is wrong -/
def byc (A : Int) (l : List Int) : Int := if swc l ≠ 0 then swc l else if A < -1000000000000 ∨ 1000000000000 < A then 1 else if l.sum = 0 then 6 else 0

/-- the partial sums of the shares rounded down -/
def flp (a : Int) (l : List Int) (k : Nat) : Int := sumr k fun i => a * l.getD i 0 / l.sum
theorem flp_succ (a : Int) (l : List Int) (k : Nat) : flp a l (k + 1) = flp a l k + a * l.getD k 0 / l.sum := sumr_succ ..
/-- the first k of f, zeros behind -/
def fz (n : Nat) (f : Nat → Int) (k : Nat) : List Int := (List.range n).map fun i => if i < k then f i else 0
/-- the first k of f, g behind -/
def fg (n : Nat) (f g : Nat → Int) (k : Nat) : List Int := (List.range n).map fun i => if i < k then f i else g i
theorem fg_len (n : Nat) (f g : Nat → Int) (k : Nat) : (fg n f g k).length = n := by simp [fg]
theorem fg_get (n : Nat) (f g : Nat → Int) (k i : Nat) (h : i < n) : ge (fg n f g k) i = if i < k then f i else g i := by
  unfold ge fg; rw [List.getD_eq_getElem?_getD, List.getElem?_map, List.getElem?_range h]; rfl
theorem fg_step (n : Nat) (f g : Nat → Int) (k : Nat) (h : k < n) : (fg n f g k).set k (f k) = fg n f g (k + 1) := by
  apply List.ext_getElem?
  intro i
  rw [List.getElem?_set, fg_len]
  unfold fg
  rw [List.getElem?_map, List.getElem?_map]
  by_cases e : k = i
  · subst e; rw [if_pos rfl, if_pos h, List.getElem?_range h]; simp
  · rw [if_neg e]
    by_cases hi : i < n
    · rw [List.getElem?_range hi]
      show some _ = some _
      congr 1
      dsimp only
      by_cases c : i < k
      · rw [if_pos c, if_pos (by omega)]
      · rw [if_neg c, if_neg (by omega)]
    · rw [List.getElem?_eq_none (by simpa using hi)]; rfl
theorem fg_all (n : Nat) (f g : Nat → Int) : fg n f g n = (List.range n).map f := by
  unfold fg
  refine List.map_congr_left fun i hi => ?_
  rw [if_pos (List.mem_range.1 hi)]
theorem fg_zero (n : Nat) (f g : Nat → Int) : fg n f g 0 = (List.range n).map g := by
  unfold fg
  refine List.map_congr_left fun i hi => ?_
  rw [if_neg (by omega)]
/-- one more to each that the first k of ys name -/
def inc (a : Int) (l ys : List Int) (k : Nat) : List Int := (List.range l.length).map fun i => a * l.getD i 0 / l.sum + (((ys.take k).count (i : Int) : Nat) : Int)
theorem inc_len (a : Int) (l ys : List Int) (k : Nat) : (inc a l ys k).length = l.length := by simp [inc]
theorem inc_get (a : Int) (l ys : List Int) (k i : Nat) (h : i < l.length) : ge (inc a l ys k) i = a * l.getD i 0 / l.sum + (((ys.take k).count (i : Int) : Nat) : Int) := by
  unfold ge inc; rw [List.getD_eq_getElem?_getD, List.getElem?_map, List.getElem?_range h]; rfl
theorem inc_zero (a : Int) (l ys : List Int) : inc a l ys 0 = (List.range l.length).map fun i => a * l.getD i 0 / l.sum := by
  unfold inc; refine List.map_congr_left fun i hi => ?_; simp
theorem inc_step (a : Int) (l ys : List Int) (k j : Nat) (hk : k < ys.length) (hj : j < l.length) (e : ge ys k = (j : Int)) : (inc a l ys k).set j (ge (inc a l ys k) j + 1) = inc a l ys (k + 1) := by
  rw [inc_get _ _ _ _ _ hj]
  have t : ys.take (k + 1) = ys.take k ++ [(j : Int)] := by
    rw [List.take_succ_eq_append_getElem hk]
    have := ge_some hk
    rw [List.getElem?_eq_getElem hk] at this
    injection this with this
    rw [this, e]
  apply List.ext_getElem?
  intro i
  rw [List.getElem?_set, inc_len]
  unfold inc
  rw [List.getElem?_map, List.getElem?_map, t]
  by_cases c : j = i
  · subst c; rw [if_pos rfl, if_pos hj, List.getElem?_range hj]
    show some _ = some _
    congr 1
    dsimp only
    rw [List.count_append]; simp; omega
  · rw [if_neg c]
    by_cases hi : i < l.length
    · rw [List.getElem?_range hi]
      show some _ = some _
      congr 1
      dsimp only
      rw [List.count_append]
      have : List.count (i : Int) [(j : Int)] = 0 := List.count_eq_zero.2 (by simp; omega)
      rw [this]; simp
    · rw [List.getElem?_eq_none (by simpa using hi)]; rfl
theorem ri_getD {l : List Int} (hw : ∀ x ∈ l, 0 ≤ x ∧ x ≤ 1000000) (k : Nat) : 0 ≤ l.getD k 0 ∧ l.getD k 0 ≤ 1000000 := by
  by_cases h : k < l.length
  · exact hw _ (getD_mem l k h)
  · rw [List.getD_eq_getElem?_getD, List.getElem?_eq_none (by omega)]; simp
theorem getD_le_sum {l : List Int} (hw : ∀ x ∈ l, 0 ≤ x) (k : Nat) : l.getD k 0 ≤ l.sum ∧ 0 ≤ l.sum := by
  induction l generalizing k with
  | nil => simp
  | cons x l ih =>
    have h0 := hw x (by simp)
    have h1 := fun k => ih (fun y hy => hw y (by simp [hy])) k
    cases k with
    | zero => have := h1 0; simp; omega
    | succ k =>
      have := h1 k
      rw [List.getD_cons_succ, List.sum_cons]; omega
/-- of a share: what the walk needs -/
theorem share_bd {a S v : Int} (ha : 0 ≤ a) (ha2 : a ≤ 1000000000000) (hv : 0 ≤ v) (hv2 : v ≤ 1000000) (hs : v ≤ S) (h0 : 0 < S) : 0 ≤ a * v ∧ a * v ≤ 1000000000000000000 ∧ 0 ≤ a * v / S ∧ a * v / S ≤ 1000000000000 := by
  have p1 : 0 ≤ a * v := Int.mul_nonneg ha hv
  have p2 := prod_bd a v 1000000000000 1000000 (by omega) ha2 hv hv2 (by omega)
  have p3 : a * v ≤ a * S := Int.mul_le_mul_of_nonneg_left hs ha
  have p4 : a * v / S ≤ a := by
    have := Int.ediv_le_ediv h0 p3
    rw [Int.mul_ediv_cancel _ (by omega)] at this; exact this
  exact ⟨p1, by omega, Int.ediv_nonneg p1 (by omega), by omega⟩
theorem flp_bd {a : Int} {l : List Int} (ha : 0 ≤ a) (ha2 : a ≤ 1000000000000) (hw : ∀ x ∈ l, 0 ≤ x ∧ x ≤ 1000000) (h0 : 0 < l.sum) (k : Nat) : 0 ≤ flp a l k ∧ flp a l k ≤ 1000000000000 * k := by
  induction k with
  | zero => simp [flp, sumr_zero]
  | succ k ih =>
    rw [flp_succ]
    obtain ⟨u1, u2⟩ := ri_getD hw k
    have := share_bd ha ha2 u1 u2 (getD_le_sum (fun x hx => (hw x hx).1) k).1 h0
    omega
theorem flp_all (a : Int) (l : List Int) : left a l.sum l = a - flp a l l.length := rfl

def ByPost (w : World) (A : Int) (l : List Int) (e : Ending) (w' : World) : Prop :=
  ∃ g, e = .returned (.tuple #[.slice (some ⟨g, 0, none⟩) l.length l.length, .int .i64 0]) ∧ Mor w w' ∧ Row w' g 0 (byl A l)
def ByNo (w : World) (c : Int) (e : Ending) (w' : World) : Prop := e = .returned (.tuple #[.slice none 0 0, .int .i64 c]) ∧ Mor w w'

set_option maxRecDepth 100000 in
set_option maxHeartbeats 3200000 in
theorem by_no (a0 : Int) (A : Option Addr) (n cap : Nat) (l : List Int) (w : World) (hr : Ri w A l) (hn : l.length = n) (hml : n ≤ maxLen) (hc : byc a0 l ≠ 0) :
    Calls Try.prog 13 #[.int .i64 a0, .slice A n cap] w (ByNo w (byc a0 l)) := by
  have HW := Lib.hid (fun w' (h : Mor w w') => sweights_any A n cap l w' (hr.mor h) hn hml)
  clear hr hn
  by_cases h1 : swc l = 0
  · by_cases h2 : a0 < -1000000000000 ∨ 1000000000000 < a0
    · have HF := Lib.hid (show byc a0 l = 1 by unfold byc; rw [if_neg (by simp [h1]), if_pos h2])
      rw [h1] at HW
      have HMo := Lib.hid (fun w => money_no a0 w h2)
      generalize swv l = S at *
      clear hc h1 h2
      go_enter Try.func13, Try.ntmps13
      go_wp2_with (first
        | (go_at_call 34; (with_reducible refine (HW.out _ ((Mor.refl _).alloc.alloc)).mono ?_); rintro e w1 ⟨rfl, rfl⟩)
        | (go_at_call 35; (with_reducible refine (HMo.out _).mono ?_); rintro e w2 ⟨rfl, rfl⟩))
      go_returns
      exact ⟨by rw [HF.out] <;> rfl, (Mor.refl _).alloc.alloc.alloc⟩
    · have h3 : l.sum = 0 := by
        by_cases h3 : l.sum = 0
        · exact h3
        · exfalso; apply hc; unfold byc; rw [if_neg (by simp [h1]), if_neg h2, if_neg h3]
      have HF := Lib.hid (show byc a0 l = 6 by unfold byc; rw [if_neg (by simp [h1]), if_neg h2, if_pos h3])
      rw [h1, show swv l = 0 by unfold swv; rw [if_pos h1, h3]] at HW
      have HMo := Lib.hid (fun w => money_yes a0 w (by omega) (by omega))
      clear hc h1 h2 h3
      go_enter Try.func13, Try.ntmps13
      go_wp2_with (first
        | (go_at_call 34; (with_reducible refine (HW.out _ ((Mor.refl _).alloc.alloc)).mono ?_); rintro e w1 ⟨rfl, rfl⟩)
        | (go_at_call 35; (with_reducible refine (HMo.out _).mono ?_); rintro e w2 ⟨rfl, rfl⟩))
      go_returns
      exact ⟨by rw [HF.out] <;> rfl, (Mor.refl _).alloc.alloc.alloc⟩
  · have HF := Lib.hid (show byc a0 l = swc l by unfold byc; rw [if_pos h1])
    have h1' : (swc l == 0) = false := by simpa using h1
    generalize swc l = c at *
    generalize swv l = S at *
    clear hc
    go_enter Try.func13, Try.ntmps13
    go_wp2_with (first
      | (go_at_call 34; (with_reducible refine (HW.out _ ((Mor.refl _).alloc.alloc)).mono ?_); rintro e w1 ⟨rfl, rfl⟩))
    go_returns
    exact ⟨by rw [HF.out] <;> rfl, (Mor.refl _).alloc.alloc.alloc⟩

end Go.Proofs.Ytbjfmhncpfhdmaa
