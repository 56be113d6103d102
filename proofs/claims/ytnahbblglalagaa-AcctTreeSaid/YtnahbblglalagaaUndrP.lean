/- How many codes lie under a code, in plain Lean. -/
import Derived.Test.YtnahbblglalagaaUndrB
namespace Go.Proofs.Ytnahbblglalagaa
open Go.ChangeShapes Go.WideShapes Go.ChangeAt Go.RowKit Go.PlainAid
set_option linter.unusedVariables false

abbrev lit10 : ByteArray := { data := #[48, 49, 50, 51, 52, 53, 54, 55, 56, 57] }
/-- a code and one more digit -/
def cx (s : ByteArray) (d : Nat) : ByteArray := s ++ lit10.extract d (d + 1)
theorem cx_list (s : ByteArray) (d : Nat) (h : d < 10) : (cx s d).toList = s.toList ++ [UInt8.ofNat (48 + d)] ∧ (cx s d).size = s.size + 1 := by
  have e : (lit10.extract d (d + 1)).toList = [UInt8.ofNat (48 + d)] := by
    match d, h with
    | 0, _ => decide +kernel
    | 1, _ => decide +kernel
    | 2, _ => decide +kernel
    | 3, _ => decide +kernel
    | 4, _ => decide +kernel
    | 5, _ => decide +kernel
    | 6, _ => decide +kernel
    | 7, _ => decide +kernel
    | 8, _ => decide +kernel
    | 9, _ => decide +kernel
  have e2 : (cx s d).toList = s.toList ++ [UInt8.ofNat (48 + d)] := by
    unfold cx
    rw [← e, ByteArray.toList_eq, ByteArray.toList_eq, ByteArray.toList_eq, ByteArray.data_append, Array.toList_append]
  refine ⟨e2, ?_⟩
  rw [← size_list, e2, List.length_append, size_list]; rfl
theorem pre_self (s : ByteArray) : preB s s = true := by
  unfold preB; rw [← size_list, List.take_length]; simp
theorem list_inj {s t : ByteArray} (h : s.toList = t.toList) : s = t := bytes_inj (by rw [← ByteArray.toList_eq, ← ByteArray.toList_eq]; exact h)
/-- what stands behind a beginning -/
theorem pre_split {s t : ByteArray} (h : preB s t = true) : ∃ r, t.toList = s.toList ++ r := by
  unfold preB at h
  have := of_decide_eq_true h
  exact ⟨t.toList.drop s.size, by rw [← this, List.take_append_drop]⟩
theorem pre_of {s t : ByteArray} {r : List UInt8} (h : t.toList = s.toList ++ r) : preB s t = true := by
  unfold preB; rw [h, ← size_list, List.take_left]; simp
theorem pre_cx {s t : ByteArray} {d : Nat} (hd : d < 10) : preB (cx s d) t = true ↔ ∃ r, t.toList = s.toList ++ UInt8.ofNat (48 + d) :: r := by
  constructor
  · intro h
    obtain ⟨r, hr⟩ := pre_split h
    rw [(cx_list s d hd).1, List.append_assoc] at hr
    exact ⟨r, hr⟩
  · rintro ⟨r, hr⟩
    refine pre_of (r := r) ?_
    rw [(cx_list s d hd).1, List.append_assoc]
    exact hr
theorem pre_less {s t : ByteArray} {d : Nat} (hd : d < 10) (h : preB (cx s d) t = true) : preB s t = true := by
  obtain ⟨r, hr⟩ := (pre_cx hd).1 h
  exact pre_of hr
def one01 (b : Bool) : Int := if b = true then 1 else 0
/-- of how many of the first k digits -/
def gk (s t : ByteArray) : Nat → Int
  | 0 => 0
  | k + 1 => gk s t k + one01 (preB (cx s k) t)
def dig (t : ByteArray) : Prop := ∀ c ∈ t.toList, 48 ≤ c.toNat ∧ c.toNat ≤ 57
theorem gk_none {s t : ByteArray} (h : ∀ d, d < 10 → preB (cx s d) t = false) (k : Nat) (hk : k ≤ 10) : gk s t k = 0 := by
  induction k with
  | zero => rfl
  | succ k ih =>
    show gk s t k + one01 _ = 0
    rw [ih (by omega), h k (by omega)]; rfl
theorem gk_all {s t : ByteArray} (hd : dig t) : gk s t 10 + (if t = s then 1 else 0) = one01 (preB s t) := by
  cases hp : preB s t
  · have h1 : ∀ d, d < 10 → preB (cx s d) t = false := fun d hd => by
      cases hq : preB (cx s d) t
      · rfl
      · rw [pre_less hd hq] at hp; cases hp
    rw [gk_none h1 10 (by omega), if_neg]
    · rfl
    · intro e; subst e; rw [pre_self] at hp; cases hp
  · obtain ⟨r, hr⟩ := pre_split hp
    cases r with
    | nil =>
      rw [List.append_nil] at hr
      have e := list_inj hr
      subst e
      have h1 : ∀ d, d < 10 → preB (cx t d) t = false := fun d hd => by
        cases hq : preB (cx t d) t
        · rfl
        · obtain ⟨r, hr⟩ := (pre_cx hd).1 hq
          have := congrArg List.length hr
          simp at this
      rw [gk_none h1 10 (by omega), if_pos rfl]; rfl
    | cons c r =>
      have hc := hd c (by rw [hr]; simp)
      have hne : t ≠ s := fun e => by
        subst e
        have := congrArg List.length hr
        simp at this
      have hpd : ∀ d, d < 10 → (preB (cx s d) t = true ↔ c.toNat = 48 + d) := fun d hd => by
        rw [pre_cx hd]
        constructor
        · rintro ⟨r', hr'⟩
          rw [hr] at hr'
          have := List.append_cancel_left hr'
          injection this with h1 _
          rw [h1, UInt8.toNat_ofNat']
          omega
        · intro h
          refine ⟨r, ?_⟩
          rw [hr, ← h, UInt8.ofNat_toNat]
      have hg : ∀ k, k ≤ 10 → gk s t k = if c.toNat < 48 + k then 1 else 0 := fun k hk => by
        induction k with
        | zero => rw [if_neg (by omega)]; rfl
        | succ k ih =>
          show gk s t k + one01 (preB (cx s k) t) = _
          rw [ih (by omega)]
          by_cases h : c.toNat = 48 + k
          · rw [(hpd k (by omega)).2 h, if_neg (by omega), if_pos (by omega)]; rfl
          · have hq : preB (cx s k) t = false := by
              cases hq : preB (cx s k) t
              · rfl
              · exact absurd ((hpd k (by omega)).1 hq) h
            rw [hq]
            by_cases h2 : c.toNat < 48 + k
            · rw [if_pos h2, if_pos (by omega)]; rfl
            · rw [if_neg h2, if_neg (by omega)]; rfl
      rw [hg 10 (Nat.le_refl _), if_pos (by omega), if_neg hne]; rfl
theorem und_count (ac : List Ln) (s : ByteArray) : ((und ac s).length : Int) = sm (fun a : Ln => one01 (preB s a.1)) ac := by
  induction ac with
  | nil => rfl
  | cons a ac ih =>
    show _ = one01 (preB s a.1) + sm (fun a : Ln => one01 (preB s a.1)) ac
    rw [← ih]
    unfold und
    cases h : preB s a.1
    · rw [List.filter_cons_of_neg (by simp [h])]; unfold one01; simp
    · rw [List.filter_cons_of_pos (by simp [h])]; unfold one01; simp; omega
/-- how many lie under the code and one of the first k digits -/
def dsum (ac : List Ln) (s : ByteArray) : Nat → Int
  | 0 => 0
  | k + 1 => dsum ac s k + (und ac (cx s k)).length
theorem dsum_eq (ac : List Ln) (s : ByteArray) (k : Nat) : dsum ac s k = sm (fun a : Ln => gk s a.1 k) ac := by
  induction k with
  | zero => exact (sm_zero fun _ _ => rfl).symm
  | succ k ih =>
    show dsum ac s k + _ = sm (fun a : Ln => gk s a.1 k + one01 (preB (cx s k) a.1)) ac
    rw [ih, und_count, sm_add]
theorem und_mem {ac : List Ln} {s t : ByteArray} : t ∈ und ac s ↔ t ∈ ac.map (·.1) ∧ preB s t = true := by
  unfold und
  rw [List.mem_map, List.mem_map]
  constructor
  · rintro ⟨a, ha, rfl⟩
    rw [List.mem_filter] at ha
    exact ⟨⟨a, ha.1, rfl⟩, ha.2⟩
  · rintro ⟨⟨a, ha, rfl⟩, h⟩
    exact ⟨a, List.mem_filter.2 ⟨ha, h⟩, rfl⟩
/-- the accounts under a code are partitioned by the next digit -/
theorem und_all {ac : List Ln} (h : acc ac = 0) (hd : ∀ a ∈ ac, dig a.1) (s : ByteArray) : dsum ac s 10 + (if memB s (und ac s) = true then 1 else 0) = (und ac s).length := by
  have hnd := (acc_ok h).2.1
  rw [dsum_eq, und_count]
  have e1 : sm (fun a : Ln => if a.1 = s then (1 : Int) else 0) ac = if memB s (und ac s) = true then 1 else 0 := by
    by_cases hm : s ∈ ac.map (·.1)
    · rw [if_pos ((memB_iff _ _).2 (und_mem.2 ⟨hm, pre_self s⟩))]
      exact sm_one (fun a : Ln => a.1) 1 s hnd hm
    · rw [if_neg (fun h => hm (und_mem.1 ((memB_iff _ _).1 h)).1)]
      exact sm_zero fun a ha => by rw [if_neg]; intro e; exact hm (e ▸ List.mem_map_of_mem ha)
  rw [← e1, ← sm_add]
  exact sm_congr fun a ha => gk_all (hd a ha)
theorem und_sorted {ac : List Ln} (h : acc ac = 0) (s : ByteArray) : (und ac s).Pairwise fun a b => ltB a b = true := by
  unfold und
  rw [List.pairwise_map]
  exact (acc_ok h).2.2.2.filter _

end Go.Proofs.Ytnahbblglalagaa
