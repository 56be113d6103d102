/- closing.Close, be it refused or not; what it does to balances. -/
import Derived.Test.YtdfacejepmolbaaCloB
namespace Go.Proofs.Ytdfacejepmolbaa
open Go.ChangeShapes Go.WideShapes Go.ChangeAt Go.RowKit Go.PlainAid
set_option linter.unusedVariables false

theorem close_any (A : Option Addr) (n c : Nat) (X : Option Addr) (m k : Nat) (b : Bok) (key : ByteArray) (day : Int) (code : ByteArray) (w : World) (hb : Bq w A n c X m k b) (hks : key.size ≤ maxLen) (hcs : code.size ≤ maxLen) :
    Calls Try.prog 14 #[bv A n c X m k b.shut, .string key, .int .i64 day, .string code] w (PostAny w (closeb b key day code) (closec b key day code)) := by
  by_cases h1 : bookc b = 0
  · by_cases h2 : day < 0 ∨ 292193 < day
    · have e : closec b key day code = 1 := by unfold closec; rw [if_neg (by simp [h1]), if_pos h2]
      have e2 : closeb b key day code = zeroB := by unfold closeb; rw [if_neg (by rw [e]; omega)]
      rw [e, e2]
      exact (close_2 A n c X m k b key day code w hb h1 h2).mono fun e w' h => any_no h
    · rcases findA_cases b.ac code with h3 | ⟨i, hi, h3, h4⟩
      · have e : closec b key day code = 4 := by unfold closec; rw [if_neg (by simp [h1]), if_neg h2, if_pos h3]
        have e2 : closeb b key day code = zeroB := by unfold closeb; rw [if_neg (by rw [e]; omega)]
        rw [e, e2]
        exact (close_3 A n c X m k b key day code w hb h1 h2 h3).mono fun e w' h => any_no h
      · by_cases h5 : am b.ac i = 2
        · exact close_go A n c X m k b key day code w hb hks hcs h1 h2 i hi h3 h5 (by
            unfold closec
            rw [if_neg (by simp [h1]), if_neg h2, if_neg (by omega), h3, show ((i : Int)).toNat = i by omega, if_neg (by simp [h5])])
        · have e : closec b key day code = 3 := by
            unfold closec
            rw [if_neg (by simp [h1]), if_neg h2, if_neg (by omega), h3, show ((i : Int)).toNat = i by omega, if_pos h5]
          have e2 : closeb b key day code = zeroB := by unfold closeb; rw [if_neg (by rw [e]; omega)]
          rw [e, e2]
          exact (close_4 A n c X m k b key day code w hb h1 h2 i hi h3 h5).mono fun e w' h => any_no h
  · have e : closec b key day code = bookc b := by unfold closec; rw [if_pos h1]
    have e2 : closeb b key day code = zeroB := by unfold closeb; rw [if_neg (by rw [e]; exact h1)]
    rw [e, e2]
    exact (close_1 A n c X m k b key day code w hb h1).mono fun e w' h => any_no h
/-- the closed book -/
theorem closed {b : Bok} {key : ByteArray} {day : Int} {code : ByteArray} (h : closec b key day code = 0) :
    BOk (closeb b key day code) ∧ (closeb b key day code).ac = b.ac ∧ (closeb b key day code).shut = day ∧ (closeb b key day code).en = (postb b (closeE b key day code)).en := by
  obtain ⟨hbo, d0, d9, _, _, hp, hs⟩ := closec_zero h
  have e : closeb b key day code = shutb (postb b (closeE b key day code)) day := by unfold closeb; rw [if_pos h]
  rw [e]
  exact ⟨shut_ok (post_ok hp) d0 d9, (post_ac b _).1, rfl, rfl⟩
theorem closed_of {b : Bok} {key : ByteArray} {day : Int} {code : ByteArray} (h : closec b key day code = 0) (s : ByteArray) (t : Int) :
    ofS (closeb b key day code).en s 0 t = ofS b.en s 0 t + if 0 ≤ findE b.en key then 0 else if t < day then 0 else lnOf (closeE b key day code).ls s := by
  obtain ⟨_, d0, _, _, _, hp, _⟩ := closec_zero h
  rw [(closed h).2.2.2, post_of hp]
  congr 1
  show (if 0 ≤ findE b.en key then (0 : Int) else enOf s 0 t (closeE b key day code)) = _
  by_cases hf : 0 ≤ findE b.en key
  · rw [if_pos hf, if_pos hf]
  · rw [if_neg hf, if_neg hf]
    unfold enOf
    show (if day < 0 ∨ t < day then 0 else _) = _
    by_cases ht : t < day
    · rw [if_pos (.inr ht), if_pos ht]
    · rw [if_neg (by omega), if_neg ht]
theorem closed_balc {b : Bok} {key : ByteArray} {day : Int} {code : ByteArray} (h : closec b key day code = 0) (s : ByteArray) (t : Int) : balc (closeb b key day code) s t = balc b s t := by
  obtain ⟨h1, h2, _, _⟩ := closed h
  unfold balc
  rw [(bookc_iff _).2 h1, (bookc_iff _).2 (closec_zero h).1, h2]
/-- what the closing's lines give the account j -/
theorem close_ln {b : Bok} {key : ByteArray} {day : Int} {code : ByteArray} (h : closec b key day code = 0) {j : Nat} (hj : j < b.ac.length) :
    lnOf (closeE b key day code).ls (cd b.ac j) = if am b.ac j = 3 ∨ am b.ac j = 4 then -ofS b.en (cd b.ac j) 0 day else if code = cd b.ac j then cls b day b.ac else 0 := by
  obtain ⟨hbo, _, _, ⟨i, hi, _, hci, h2⟩, _, _, _⟩ := closec_zero h
  have hnd := (acc_ok hbo.ac).2.1
  obtain ⟨e1, e2⟩ := cd_at b.ac j hj
  show lnOf (cll b day b.ac ++ if cls b day b.ac ≠ 0 then [(code, cls b day b.ac)] else []) (cd b.ac j) = _
  rw [ln_app]
  have h3 : lnOf (cll b day b.ac) (cd b.ac j) = - clg b day b.ac[j] := by rw [e1]; exact cll_of hnd (List.getElem_mem hj)
  have h4 : lnOf (if cls b day b.ac ≠ 0 then [(code, cls b day b.ac)] else []) (cd b.ac j) = if code = cd b.ac j then cls b day b.ac else 0 := by
    by_cases hs : cls b day b.ac = 0
    · rw [if_neg (by simp [hs]), hs]; split <;> rfl
    · rw [if_pos hs]; unfold lnOf sm sm; simp
  have h5 : clg b day b.ac[j] = if am b.ac j = 3 ∨ am b.ac j = 4 then ofS b.en (cd b.ac j) 0 day else 0 := by
    by_cases ha : earns b.ac[j]
    · have ha' : am b.ac j = 3 ∨ am b.ac j = 4 := by rw [e2]; exact ha
      unfold clg
      rw [if_pos ha, if_pos ha', e1]
    · have ha' : ¬ (am b.ac j = 3 ∨ am b.ac j = 4) := by rw [e2]; exact ha
      unfold clg
      rw [if_neg ha, if_neg ha']
  rw [h3, h4, h5]
  by_cases ha : am b.ac j = 3 ∨ am b.ac j = 4
  · rw [if_pos ha, if_pos ha, if_neg, Int.add_zero]
    intro e
    have hji : am b.ac j = 2 := by
      have := nodup_at hnd (j := j) hj (a := b.ac[i]) (List.getElem_mem hi) (by rw [← (cd_at b.ac i hi).1, hci, e])
      rw [← (cd_at b.ac i hi).2, h2] at this
      exact this.symm
    omega
  · rw [if_neg ha, if_neg ha]; simp

end Go.Proofs.Ytdfacejepmolbaa
