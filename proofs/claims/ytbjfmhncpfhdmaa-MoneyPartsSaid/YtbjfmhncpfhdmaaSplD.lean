/- What the parts that split.By tells are. -/
import Derived.Test.YtbjfmhncpfhdmaaSplC
namespace Go.Proofs.Ytbjfmhncpfhdmaa
open Go.ChangeShapes Go.WideShapes Go.ChangeAt Go.RowKit Stb
set_option linter.unusedVariables false

theorem prts_len (a S : Int) (l ys : List Int) : (prts a S l ys).length = l.length := by simp [prts]
theorem prts_get (a S : Int) (l ys : List Int) (i : Nat) (h : i < l.length) : (prts a S l ys).getD i 0 = prt a S l ys i := by
  unfold prts; rw [List.getD_eq_getElem?_getD, List.getElem?_map, List.getElem?_range h]; rfl
theorem byl_len (A : Int) (l : List Int) : (byl A l).length = l.length := by
  unfold byl; split <;> simp [prts]
theorem byl_get (A : Int) (l : List Int) (i : Nat) (h : i < l.length) : (byl A l).getD i 0 = if 0 ≤ A then prt A l.sum l (pord A l) i else -prt (-A) l.sum l (pord (-A) l) i := by
  unfold byl
  split
  · exact prts_get _ _ _ _ _ h
  · unfold prts; rw [List.map_map, List.getD_eq_getElem?_getD, List.getElem?_map, List.getElem?_range h]; rfl
theorem neg_sum (xs : List Int) : (xs.map fun x => -x).sum = -xs.sum := by
  induction xs with
  | nil => rfl
  | cons x xs ih => simp only [List.map_cons, List.sum_cons, ih]; omega
/-- what is so where all is right -/
structure Byk (A : Int) (l : List Int) : Prop where
  sum : (byl A l).sum = A
  near : ∀ i, i < l.length → -l.sum < (byl A l).getD i 0 * l.sum - A * l.getD i 0 ∧ (byl A l).getD i 0 * l.sum - A * l.getD i 0 < l.sum
  bd : ∀ i, i < l.length → -1000000001000 ≤ (byl A l).getD i 0 ∧ (byl A l).getD i 0 ≤ 1000000001000
  pos : 0 < l.sum
  le : l.sum ≤ 40000000
  wt : ∀ x ∈ l, 0 ≤ x ∧ x ≤ 1000000
  n40 : l.length ≤ 40
  a1 : -1000000000000 ≤ A
  a2 : A ≤ 1000000000000
  nonneg : 0 ≤ A → ∀ i, i < l.length → 0 ≤ (byl A l).getD i 0
theorem prt_bd {a : Int} {l : List Int} (ha : 0 ≤ a) (ha2 : a ≤ 1000000000000) (hw : ∀ x ∈ l, 0 ≤ x ∧ x ≤ 1000000) (h0 : 0 < l.sum) (i : Nat) (hi : i < l.length) : 0 ≤ prt a l.sum l (pord a l) i ∧ prt a l.sum l (pord a l) i ≤ 1000000001000 := by
  have h1 := (pord_ok a l).le_one i (left a l.sum l).toNat hi
  have h2 := share_bd ha ha2 (ri_getD hw i).1 (ri_getD hw i).2 (getD_le_sum (fun x hx => (hw x hx).1) i).1 h0
  unfold prt
  omega
theorem byk {A : Int} {l : List Int} (h : byc A l = 0) : Byk A l := by
  obtain ⟨h1, h2, h3, h4⟩ := byc_zero h
  obtain ⟨h5, h6⟩ := swc_zero h1
  have h7 : 0 ≤ l.sum := (getD_le_sum (fun x hx => (h6 x hx).1) 0).2
  have h8 : 0 < l.sum := by omega
  have h9 : l.sum ≤ 40000000 := by
    have := sum_bd l 1000000 (by omega) (fun x hx => by have := h6 x hx; omega)
    omega
  by_cases c : 0 ≤ A
  · refine ⟨?_, fun i hi => ?_, fun i hi => ?_, h8, h9, h6, h5, h2, h3, fun _ i hi => ?_⟩
    · unfold byl; rw [if_pos c]; exact prts_sum (pord_ok A l) h8
    · rw [byl_get _ _ _ hi, if_pos c]; exact prt_near (pord_ok A l) h8 i hi
    · rw [byl_get _ _ _ hi, if_pos c]; have := prt_bd c h3 h6 h8 i hi; omega
    · rw [byl_get _ _ _ hi, if_pos c]; exact (prt_bd c h3 h6 h8 i hi).1
  · refine ⟨?_, fun i hi => ?_, fun i hi => ?_, h8, h9, h6, h5, h2, h3, fun h => absurd h c⟩
    · unfold byl; rw [if_neg c, neg_sum, prts_sum (pord_ok (-A) l) h8]; omega
    · rw [byl_get _ _ _ hi, if_neg c]
      have := prt_near (pord_ok (-A) l) h8 i hi
      generalize prt (-A) l.sum l (pord (-A) l) i = p at *
      rw [Int.neg_mul] at this ⊢
      omega
    · rw [byl_get _ _ _ hi, if_neg c]; have := prt_bd (a := -A) (by omega) (by omega) h6 h8 i hi; omega
theorem list_bd {xs : List Int} {n : Nat} (hn : xs.length = n) (M : Int) (h : ∀ i, i < n → -M ≤ xs.getD i 0 ∧ xs.getD i 0 ≤ M) : ∀ x ∈ xs, -M ≤ x ∧ x ≤ M := by
  intro x hx
  obtain ⟨i, hi, e⟩ := List.getElem_of_mem hx
  have := h i (by omega)
  rw [List.getD_eq_getElem?_getD, List.getElem?_eq_getElem hi, Option.getD_some, e] at this
  exact this
theorem Byk.all {A : Int} {l : List Int} (h : Byk A l) : ∀ x ∈ byl A l, -1000000000000000 ≤ x ∧ x ≤ 1000000000000000 := fun x hx => by
  have := list_bd (byl_len A l) 1000000001000 h.bd x hx
  omega

end Go.Proofs.Ytbjfmhncpfhdmaa
