/- What closing.Close makes, in plain Lean. -/
import Derived.Test.YtdfacejepmolbaaAnyA
namespace Go.Proofs.Ytdfacejepmolbaa
open Go.ChangeShapes Go.WideShapes Go.ChangeAt Go.RowKit Go.PlainAid
set_option linter.unusedVariables false

/-- is the account one of Income or of Expense? -/
def earns (a : Ln) : Prop := a.2 = 3 ∨ a.2 = 4
instance (a : Ln) : Decidable (earns a) := by unfold earns; infer_instance
def clf (b : Bok) (day : Int) (a : Ln) : List Ln := if ofS b.en a.1 0 day ≠ 0 ∧ earns a then [(a.1, -ofS b.en a.1 0 day)] else []
def clg (b : Bok) (day : Int) (a : Ln) : Int := if earns a then ofS b.en a.1 0 day else 0
def cll (b : Bok) (day : Int) (acs : List Ln) : List Ln := acs.flatMap (clf b day)
def cls (b : Bok) (day : Int) (acs : List Ln) : Int := sm (clg b day) acs
def closeE (b : Bok) (key : ByteArray) (day : Int) (code : ByteArray) : En := ⟨key, day, cll b day b.ac ++ if cls b day b.ac ≠ 0 then [(code, cls b day b.ac)] else []⟩
/-- what Close says -/
def closec (b : Bok) (key : ByteArray) (day : Int) (code : ByteArray) : Int :=
  if bookc b ≠ 0 then bookc b else if day < 0 ∨ 292193 < day then 1 else if findA b.ac code < 0 then 4 else if am b.ac (findA b.ac code).toNat ≠ 2 then 3 else
  if cll b day b.ac = [] then 4 else if postc b (closeE b key day code) ≠ 0 then postc b (closeE b key day code) else shutc (postb b (closeE b key day code)) day
def closeb (b : Bok) (key : ByteArray) (day : Int) (code : ByteArray) : Bok := if closec b key day code = 0 then shutb (postb b (closeE b key day code)) day else zeroB
theorem findA_cases (ac : List Ln) (s : ByteArray) : findA ac s < 0 ∨ ∃ i : Nat, i < ac.length ∧ findA ac s = i ∧ cd ac i = s := by
  unfold findA
  rcases fidx_spec (fun i => decide (cd ac i = s)) ac.length 0 with ⟨e, hn⟩ | ⟨k, e, h1, h2, h3, h4⟩
  · left; rw [e]; omega
  · right; exact ⟨k, by omega, e, by simpa using h3⟩
theorem closec_zero {b : Bok} {key : ByteArray} {day : Int} {code : ByteArray} (h : closec b key day code = 0) :
    BOk b ∧ 0 ≤ day ∧ day ≤ 292193 ∧ (∃ i : Nat, i < b.ac.length ∧ findA b.ac code = i ∧ cd b.ac i = code ∧ am b.ac i = 2) ∧ cll b day b.ac ≠ [] ∧ postc b (closeE b key day code) = 0 ∧ shutc (postb b (closeE b key day code)) day = 0 := by
  unfold closec at h
  by_cases h1 : bookc b = 0
  · rw [if_neg (by simp [h1])] at h
    by_cases h2 : day < 0 ∨ 292193 < day
    · rw [if_pos h2] at h; omega
    · rw [if_neg h2] at h
      rcases findA_cases b.ac code with h3 | ⟨i, hi, h3, h4⟩
      · rw [if_pos h3] at h; omega
      · rw [if_neg (by omega), h3, show ((i : Int)).toNat = i by omega] at h
        by_cases h5 : am b.ac i = 2
        · rw [if_neg (by simp [h5])] at h
          by_cases h6 : cll b day b.ac = []
          · rw [if_pos h6] at h; omega
          · rw [if_neg h6] at h
            by_cases h7 : postc b (closeE b key day code) = 0
            · rw [if_neg (by simp [h7])] at h
              exact ⟨(bookc_iff b).1 h1, by omega, by omega, ⟨i, hi, h3, h4, h5⟩, h6, h7, h⟩
            · rw [if_pos h7] at h; exact absurd h h7
        · rw [if_pos h5] at h; omega
  · rw [if_pos h1] at h; exact absurd h h1
theorem cll_take (b : Bok) (day : Int) (ac : List Ln) (k : Nat) (h : k < ac.length) : cll b day (ac.take (k + 1)) = cll b day (ac.take k) ++ clf b day ac[k] := by
  unfold cll
  rw [List.take_succ_eq_append_getElem h, List.flatMap_append]
  simp
theorem cls_take (b : Bok) (day : Int) (ac : List Ln) (k : Nat) (h : k < ac.length) : cls b day (ac.take (k + 1)) = cls b day (ac.take k) + clg b day ac[k] := by
  unfold cls; rw [sm_take _ _ _ h]
theorem cll_len (b : Bok) (day : Int) (ac : List Ln) : (cll b day ac).length ≤ ac.length := by
  induction ac with
  | nil => exact Nat.le_refl _
  | cons a ac ih =>
    show (clf b day a ++ cll b day ac).length ≤ (a :: ac).length
    rw [List.length_append, List.length_cons]
    have : (clf b day a).length ≤ 1 := by unfold clf; split <;> simp
    omega
/-- whose lines these are -/
theorem cll_mem {b : Bok} {day : Int} {ac : List Ln} {l : Ln} (h : l ∈ cll b day ac) : ∃ a ∈ ac, earns a ∧ l = (a.1, -ofS b.en a.1 0 day) := by
  unfold cll at h
  obtain ⟨a, ha, hl⟩ := List.mem_flatMap.1 h
  unfold clf at hl
  by_cases hc : ofS b.en a.1 0 day ≠ 0 ∧ earns a
  · rw [if_pos hc] at hl; exact ⟨a, ha, hc.2, List.mem_singleton.1 hl⟩
  · rw [if_neg hc] at hl; cases hl
theorem ln_app (xs ys : List Ln) (s : ByteArray) : lnOf (xs ++ ys) s = lnOf xs s + lnOf ys s := by unfold lnOf; exact sm_append _ xs ys
/-- what the closing's lines take from an account -/
theorem cll_of {b : Bok} {day : Int} {ac : List Ln} (hn : (ac.map (·.1)).Nodup) {a : Ln} (ha : a ∈ ac) : lnOf (cll b day ac) a.1 = - clg b day a := by
  induction ac with
  | nil => cases ha
  | cons x xs ih =>
    rw [List.map_cons, List.nodup_cons] at hn
    show lnOf (clf b day x ++ cll b day xs) a.1 = _
    rw [ln_app]
    rcases List.mem_cons.1 ha with rfl | ha
    · have z : lnOf (cll b day xs) a.1 = 0 := lnOf_none fun hm => by
        obtain ⟨l, hl, he⟩ := List.mem_map.1 hm
        obtain ⟨y, hy, _, rfl⟩ := cll_mem hl
        exact hn.1 (List.mem_map.2 ⟨y, hy, he⟩)
      rw [z, Int.add_zero]
      unfold clf clg
      by_cases he : earns a
      · rw [if_pos he]
        by_cases h0 : ofS b.en a.1 0 day = 0
        · rw [if_neg (fun h => h.1 h0), h0]; rfl
        · rw [if_pos ⟨h0, he⟩]; unfold lnOf sm sm; simp
      · rw [if_neg (fun h => he h.2), if_neg he]; rfl
    · have hxa : x.1 ≠ a.1 := fun e => hn.1 (by rw [e]; exact List.mem_map_of_mem ha)
      have z : lnOf (clf b day x) a.1 = 0 := lnOf_none fun hm => by
        obtain ⟨l, hl, he⟩ := List.mem_map.1 hm
        unfold clf at hl
        by_cases hc : ofS b.en x.1 0 day ≠ 0 ∧ earns x
        · rw [if_pos hc] at hl
          rw [List.mem_singleton.1 hl] at he
          exact hxa he
        · rw [if_neg hc] at hl; cases hl
      rw [z, Int.zero_add, ih hn.2 ha]

end Go.Proofs.Ytdfacejepmolbaa
