/- The plain law of accounts' codes, entries' keys and lines. No program in sight. -/
import Derived.Test.YtnahbblglalagaaBase
import Derived.PlainAid
namespace Go.Proofs.Ytnahbblglalagaa
open Go Go.PlainAid
set_option linter.unusedVariables false

/-- a digit? -/
def digB (c : Int) : Bool := decide (48 ≤ c) && decide (c ≤ 57)
/-- of a key? -/
def keyC (c : Int) : Bool := (decide (97 ≤ c) && decide (c ≤ 122)) || (decide (48 ≤ c) && decide (c ≤ 57)) || decide (c = 45)
/-- the first k bytes of s are such -/
def allB (p : Int → Bool) (s : ByteArray) (k : Nat) : Bool := (List.range k).all (fun i => p (bt s i))
theorem allB_zero (p : Int → Bool) (s : ByteArray) : allB p s 0 = true := rfl
theorem allB_succ (p : Int → Bool) (s : ByteArray) (k : Nat) : allB p s (k + 1) = (allB p s k && p (bt s k)) := by
  unfold allB; rw [List.range_succ, List.all_append]; simp
theorem allB_bad {p : Int → Bool} {s : ByteArray} {k n : Nat} (h : p (bt s k) = false) (hk : k < n) : allB p s n = false := by
  unfold allB
  rw [List.all_eq_false]
  exact ⟨k, List.mem_range.2 hk, by simp [h]⟩
/-- may an account be called so? -/
def codeB (s : ByteArray) : Bool := decide (1 ≤ s.size) && decide (s.size ≤ 8) && allB digB s s.size
/-- may an entry be called so? -/
def keyB (s : ByteArray) : Bool := decide (1 ≤ s.size) && decide (s.size ≤ 12) && allB keyC s s.size

abbrev Ln := ByteArray × Int
def cd (xs : List Ln) (i : Nat) : ByteArray := (xs.getD i (ByteArray.empty, 0)).1
def am (xs : List Ln) (i : Nat) : Int := (xs.getD i (ByteArray.empty, 0)).2
/-- stands the code of the line i ahead of it? -/
def twB (xs : List Ln) (i : Nat) : Bool := (List.range i).any (fun j => decide (cd xs j = cd xs i))
/-- what is wrong with the line i -/
def lnAt (xs : List Ln) (i : Nat) : Int :=
  if codeB (cd xs i) = false then 3 else if am xs i < -1000000000000 ∨ 1000000000000 < am xs i ∨ am xs i = 0 then 1 else if twB xs i = true then 5 else 0
def lnUp (xs : List Ln) : Nat → Int
  | 0 => 0
  | k + 1 => if lnUp xs k ≠ 0 then lnUp xs k else lnAt xs k
theorem lnUp_bad {xs : List Ln} {k n : Nat} (h : lnUp xs k = 0) (hb : lnAt xs k ≠ 0) (hk : k < n) : lnUp xs n = lnAt xs k := by
  induction n with
  | zero => omega
  | succ n ih =>
    unfold lnUp
    by_cases e : k = n
    · subst e; rw [if_neg (by simp [h])]
    · rw [ih (by omega), if_pos hb]
theorem lnUp_ok {xs : List Ln} {k : Nat} (h : lnUp xs k = 0) (hb : lnAt xs k = 0) : lnUp xs (k + 1) = 0 := by
  unfold lnUp; rw [if_neg (by simp [h]), hb]
theorem lnUp_at {xs : List Ln} {k n : Nat} (h : lnUp xs n = 0) (hk : k < n) : lnAt xs k = 0 := by
  induction n with
  | zero => omega
  | succ n ih =>
    unfold lnUp at h
    by_cases e : lnUp xs n = 0
    · rw [if_neg (by simp [e])] at h
      by_cases e2 : k = n
      · subst e2; exact h
      · exact ih e (by omega)
    · rw [if_pos e] at h; exact absurd h e
theorem lnUp_all {xs : List Ln} {n : Nat} (h : ∀ k, k < n → lnAt xs k = 0) : lnUp xs n = 0 := by
  induction n with
  | zero => rfl
  | succ n ih => exact lnUp_ok (ih fun k hk => h k (by omega)) (h n (by omega))
/-- the sum of the first k lines -/
def amS (xs : List Ln) : Nat → Int
  | 0 => 0
  | k + 1 => amS xs k + am xs k
/-- what is wrong with the lines -/
def linec (xs : List Ln) : Int :=
  if 12 < xs.length then 2 else if lnUp xs xs.length ≠ 0 then lnUp xs xs.length else if xs.length < 2 ∨ amS xs xs.length ≠ 0 then 7 else 0
theorem amS_bd {xs : List Ln} {n : Nat} (h : ∀ k, k < n → lnAt xs k = 0) : -(1000000000000 * n) ≤ amS xs n ∧ amS xs n ≤ 1000000000000 * n := by
  induction n with
  | zero => simp [amS]
  | succ n ih =>
    have h1 := ih fun k hk => h k (by omega)
    have h2 := h n (by omega)
    unfold lnAt at h2
    unfold amS
    split at h2
    · omega
    · split at h2
      · omega
      · omega
theorem amS_congr {xs ys : List Ln} (n : Nat) (c : Int) (h : ∀ k, k < n → am ys k = c * am xs k) : amS ys n = c * amS xs n := by
  induction n with
  | zero => simp [amS]
  | succ n ih => unfold amS; rw [ih fun k hk => h k (by omega), h n (by omega), Int.mul_add]
/-- what is wrong with an entry -/
def entc (key : ByteArray) (day : Int) (xs : List Ln) : Int := if keyB key = false then 3 else if day < 0 ∨ 292193 < day then 1 else linec xs
/-- the lines turned -/
def turn (xs : List Ln) : List Ln := xs.map (fun x => (x.1, -x.2))
theorem turn_len (xs : List Ln) : (turn xs).length = xs.length := by simp [turn]
theorem cd_turn (xs : List Ln) (i : Nat) : cd (turn xs) i = cd xs i := by
  unfold cd turn
  rw [List.getD_eq_getElem?_getD, List.getD_eq_getElem?_getD, List.getElem?_map]
  cases xs[i]? <;> rfl
theorem am_turn (xs : List Ln) (i : Nat) : am (turn xs) i = -am xs i := by
  unfold am turn
  rw [List.getD_eq_getElem?_getD, List.getD_eq_getElem?_getD, List.getElem?_map]
  cases xs[i]? <;> simp
theorem turn_turn (xs : List Ln) : turn (turn xs) = xs := by
  unfold turn; rw [List.map_map]
  conv => rhs; rw [← List.map_id xs]
  exact List.map_congr_left fun x _ => by simp
theorem twB_turn (xs : List Ln) (i : Nat) : twB (turn xs) i = twB xs i := by
  unfold twB; congr 1; funext j; rw [cd_turn, cd_turn]
theorem lnAt_turn (xs : List Ln) (i : Nat) : lnAt (turn xs) i = lnAt xs i := by
  unfold lnAt
  rw [cd_turn, am_turn, twB_turn]
  split
  · rfl
  · by_cases h : am xs i < -1000000000000 ∨ 1000000000000 < am xs i ∨ am xs i = 0
    · rw [if_pos h, if_pos (by omega)]
    · rw [if_neg h, if_neg (by omega)]
theorem lnUp_turn (xs : List Ln) (n : Nat) : lnUp (turn xs) n = lnUp xs n := by
  induction n with
  | zero => rfl
  | succ n ih => unfold lnUp; rw [ih, lnAt_turn]
theorem linec_turn (xs : List Ln) : linec (turn xs) = linec xs := by
  unfold linec
  rw [turn_len, lnUp_turn, amS_congr (xs := xs) (ys := turn xs) xs.length (-1) (fun k _ => by rw [am_turn]; omega)]
  split
  · rfl
  · split
    · rfl
    · by_cases h : xs.length < 2 ∨ amS xs xs.length ≠ 0
      · rw [if_pos h, if_pos (by omega)]
      · rw [if_neg h, if_neg (by omega)]

theorem lnAt_ok {xs : List Ln} {i : Nat} (h : lnAt xs i = 0) : codeB (cd xs i) = true ∧ -1000000000000 ≤ am xs i ∧ am xs i ≤ 1000000000000 ∧ am xs i ≠ 0 ∧ twB xs i = false := by
  unfold lnAt at h
  split at h
  · omega
  · rename_i h1
    split at h
    · omega
    · rename_i h2
      split at h
      · omega
      · rename_i h3
        exact ⟨by simpa using h1, by omega, by omega, by omega, by simpa using h3⟩
theorem linec_ok {xs : List Ln} (h : linec xs = 0) : xs.length ≤ 12 ∧ 2 ≤ xs.length ∧ amS xs xs.length = 0 ∧ ∀ k, k < xs.length → lnAt xs k = 0 := by
  unfold linec at h
  split at h
  · omega
  · split at h
    · rename_i h2; exact absurd h h2
    · rename_i h1 h2
      split at h
      · omega
      · rename_i h3
        have h4 : lnUp xs xs.length = 0 := by simpa using h2
        exact ⟨by omega, by omega, by omega, fun k hk => lnUp_at h4 hk⟩
theorem entc_ok {key : ByteArray} {day : Int} {xs : List Ln} (h : entc key day xs = 0) : keyB key = true ∧ 0 ≤ day ∧ day ≤ 292193 ∧ linec xs = 0 := by
  unfold entc at h
  split at h
  · omega
  · rename_i h1
    split at h
    · omega
    · exact ⟨by simpa using h1, by omega, by omega, h⟩
theorem turn_take (xs : List Ln) (k : Nat) (hk : k < xs.length) : turn (xs.take (k + 1)) = turn (xs.take k) ++ [(cd xs k, -am xs k)] := by
  rw [List.take_succ_eq_append_getElem hk]
  unfold turn
  rw [List.map_append]
  congr 1
  unfold cd am
  rw [List.getD_eq_getElem?_getD, List.getElem?_eq_getElem hk]
  rfl

end Go.Proofs.Ytnahbblglalagaa
