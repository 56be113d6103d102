/- What a closing with a new key does to the sheet, in plain Lean. -/
import Derived.Test.YtdfacejepmolbaaCloC
namespace Go.Proofs.Ytdfacejepmolbaa
open Go.ChangeShapes Go.WideShapes Go.ChangeAt Go.RowKit Go.PlainAid
set_option linter.unusedVariables false

theorem closed_acc {b : Bok} {key : ByteArray} {day : Int} {code : ByteArray} (h : closec b key day code = 0) (hf : findE b.en key < 0) {j : Nat} (hj : j < b.ac.length) :
    ofS (closeb b key day code).en (cd b.ac j) 0 day = if am b.ac j = 3 ∨ am b.ac j = 4 then 0 else ofS b.en (cd b.ac j) 0 day + if code = cd b.ac j then cls b day b.ac else 0 := by
  rw [closed_of h, if_neg (by omega), if_neg (by omega), close_ln h hj]
  by_cases ha : am b.ac j = 3 ∨ am b.ac j = 4
  · rw [if_pos ha, if_pos ha]; omega
  · rw [if_neg ha, if_neg ha]
theorem cls_kinds (b : Bok) (day : Int) (ac : List Ln) : cls b day ac = kS b.en 0 day 3 ac + kS b.en 0 day 4 ac := by
  unfold cls kS
  rw [← sm_add]
  refine sm_congr fun a _ => ?_
  by_cases h3 : a.2 = 3
  · have he : earns a := .inl h3
    unfold clg
    rw [if_pos he, if_pos (show a.2 = ((3 : Nat) : Int) from h3), if_neg (show ¬ a.2 = ((4 : Nat) : Int) by omega), Int.add_zero]
  · by_cases h4 : a.2 = 4
    · have he : earns a := .inr h4
      unfold clg
      rw [if_pos he, if_neg (show ¬ a.2 = ((3 : Nat) : Int) by omega), if_pos (show a.2 = ((4 : Nat) : Int) from h4), Int.zero_add]
    · have he : ¬ earns a := fun h => by rcases h with h | h; exact h3 h; exact h4 h
      unfold clg
      rw [if_neg he, if_neg (show ¬ a.2 = ((3 : Nat) : Int) by omega), if_neg (show ¬ a.2 = ((4 : Nat) : Int) by omega)]; rfl
theorem closed_kS {b : Bok} {key : ByteArray} {day : Int} {code : ByteArray} (h : closec b key day code = 0) (hf : findE b.en key < 0) :
    kS (closeb b key day code).en 0 day 0 b.ac = kS b.en 0 day 0 b.ac ∧ kS (closeb b key day code).en 0 day 1 b.ac = kS b.en 0 day 1 b.ac ∧
    kS (closeb b key day code).en 0 day 2 b.ac = kS b.en 0 day 2 b.ac + cls b day b.ac ∧ kS (closeb b key day code).en 0 day 3 b.ac = 0 ∧ kS (closeb b key day code).en 0 day 4 b.ac = 0 := by
  obtain ⟨hbo, _, _, ⟨i, hi, _, hci, hk2⟩, _, _, _⟩ := closec_zero h
  have hnd := (acc_ok hbo.ac).2.1
  have hat : ∀ a ∈ b.ac, ∃ (j : Nat) (hj : j < b.ac.length), a = b.ac[j] := fun a ha => by
    obtain ⟨j, hj, rfl⟩ := List.mem_iff_getElem.1 ha; exact ⟨j, hj, rfl⟩
  have hcode : ∀ j, j < b.ac.length → am b.ac j ≠ 2 → code ≠ cd b.ac j := fun j hj h2 e => by
    have := nodup_at hnd (j := j) hj (a := b.ac[i]) (List.getElem_mem hi) (by rw [← (cd_at b.ac i hi).1, hci, e])
    rw [← (cd_at b.ac i hi).2, hk2] at this
    exact h2 this.symm
  have same : ∀ q : Nat, q = 0 ∨ q = 1 → kS (closeb b key day code).en 0 day q b.ac = kS b.en 0 day q b.ac := fun q hq => by
    unfold kS
    refine sm_congr fun a ha => ?_
    obtain ⟨j, hj, rfl⟩ := hat a ha
    obtain ⟨e1, e2⟩ := cd_at b.ac j hj
    by_cases hk : b.ac[j].2 = (q : Int)
    · rw [if_pos hk, if_pos hk, ← e1, closed_acc h hf hj, if_neg (by rw [e2]; omega), if_neg (hcode j hj (by rw [e2]; omega)), Int.add_zero]
    · rw [if_neg hk, if_neg hk]
  have none : ∀ q : Nat, q = 3 ∨ q = 4 → kS (closeb b key day code).en 0 day q b.ac = 0 := fun q hq => by
    unfold kS
    refine sm_zero fun a ha => ?_
    obtain ⟨j, hj, rfl⟩ := hat a ha
    obtain ⟨e1, e2⟩ := cd_at b.ac j hj
    by_cases hk : b.ac[j].2 = (q : Int)
    · rw [if_pos hk, ← e1, closed_acc h hf hj, if_pos (by rw [e2]; omega)]
    · rw [if_neg hk]
  refine ⟨same 0 (.inl rfl), same 1 (.inr rfl), ?_, none 3 (.inl rfl), none 4 (.inr rfl)⟩
  have e : kS (closeb b key day code).en 0 day 2 b.ac = sm (fun a : Ln => (if a.2 = ((2 : Nat) : Int) then ofS b.en a.1 0 day else 0) + if a.2 = ((2 : Nat) : Int) then (if cd b.ac i = a.1 then cls b day b.ac else 0) else 0) b.ac := by
    unfold kS
    refine sm_congr fun a ha => ?_
    obtain ⟨j, hj, rfl⟩ := hat a ha
    obtain ⟨e1, e2⟩ := cd_at b.ac j hj
    by_cases hk : b.ac[j].2 = ((2 : Nat) : Int)
    · rw [if_pos hk, if_pos hk, if_pos hk, ← e1, closed_acc h hf hj, if_neg (by rw [e2]; omega), hci]
    · rw [if_neg hk, if_neg hk, if_neg hk]; rfl
  rw [e, sm_add, one_kind hnd hi, if_pos (show am b.ac i = ((2 : Nat) : Int) from hk2)]
  rfl
/-- what is closed cannot be closed again -/
theorem closed_again {b : Bok} {key : ByteArray} {day : Int} {code : ByteArray} (h : closec b key day code = 0) (hf : findE b.en key < 0) : closec (closeb b key day code) key day code = 4 := by
  obtain ⟨hbo, d0, d9, ⟨i, hi, hfi, hci, hk2⟩, _, _, _⟩ := closec_zero h
  obtain ⟨hyo, hac, _, _⟩ := closed h
  have hnil : cll (closeb b key day code) day b.ac = [] := by
    unfold cll
    rw [List.flatMap_eq_nil_iff]
    intro a ha
    obtain ⟨j, hj, rfl⟩ := List.mem_iff_getElem.1 ha
    obtain ⟨e1, e2⟩ := cd_at b.ac j hj
    unfold clf
    rw [if_neg]
    rintro ⟨h1, h2⟩
    refine h1 ?_
    rw [← e1, closed_acc h hf hj, if_pos (by rw [e2]; exact h2)]
  unfold closec
  rw [if_neg (by simp [(bookc_iff _).2 hyo]), if_neg (by omega), hac, if_neg (by omega), hfi, show ((i : Int)).toNat = i by omega, if_neg (by simp [hk2]), if_pos hnil]
/-- the balances behind a closing -/
theorem closed_bals {b : Bok} {key : ByteArray} {day : Int} {code : ByteArray} (h : closec b key day code = 0) (hf : findE b.en key < 0) {j : Nat} (hj : j < b.ac.length) :
    balc (closeb b key day code) (cd b.ac j) day = 0 ∧ (3 ≤ am b.ac j → balv (closeb b key day code) (cd b.ac j) day = 0) := by
  obtain ⟨hbo, d0, d9, _⟩ := closec_zero h
  obtain ⟨hyo, hac, _, _⟩ := closed h
  have hh : hasB (closeb b key day code).ac (cd b.ac j) = true := by
    rw [hac, hasB_mem, (cd_at b.ac j hj).1]; exact List.mem_map_of_mem (List.getElem_mem hj)
  have h0 := balc_of hyo hh d0 d9
  refine ⟨h0, fun h3 => ?_⟩
  obtain ⟨_, _, _, _, e⟩ := balc_zero h0
  have := ((acc_ok hbo.ac).2.2.1 _ (List.getElem_mem hj)).2
  rw [← (cd_at b.ac j hj).2] at this
  rw [e, closed_acc h hf hj, if_pos (by omega)]

end Go.Proofs.Ytdfacejepmolbaa
