/- The plain law of balances. No program in sight. -/
import Derived.Test.YtnahbblglalagaaPlainBk
namespace Go.Proofs.Ytnahbblglalagaa
open Go Go.PlainAid
set_option linter.unusedVariables false

/-- a sum over a list -/
def sm {α : Type} (f : α → Int) : List α → Int
  | [] => 0
  | x :: xs => f x + sm f xs
section
variable {α β : Type}
theorem sm_append (f : α → Int) (xs ys : List α) : sm f (xs ++ ys) = sm f xs + sm f ys := by
  induction xs with
  | nil => show sm f ys = 0 + sm f ys; omega
  | cons x xs ih => show f x + sm f (xs ++ ys) = f x + sm f xs + sm f ys; omega
theorem sm_snoc (f : α → Int) (xs : List α) (x : α) : sm f (xs ++ [x]) = sm f xs + f x := by
  rw [sm_append]; show _ + (f x + 0) = _; omega
theorem sm_take (f : α → Int) (xs : List α) (k : Nat) (h : k < xs.length) : sm f (xs.take (k + 1)) = sm f (xs.take k) + f xs[k] := by
  rw [List.take_succ_eq_append_getElem h, sm_snoc]
theorem sm_congr {f g : α → Int} {xs : List α} (h : ∀ x ∈ xs, f x = g x) : sm f xs = sm g xs := by
  induction xs with
  | nil => rfl
  | cons x xs ih =>
    show f x + sm f xs = g x + sm g xs
    rw [h x (List.mem_cons_self), ih fun y hy => h y (List.mem_cons_of_mem _ hy)]
theorem sm_zero {f : α → Int} {xs : List α} (h : ∀ x ∈ xs, f x = 0) : sm f xs = 0 := by
  induction xs with
  | nil => rfl
  | cons x xs ih =>
    show f x + sm f xs = 0
    rw [h x (List.mem_cons_self), ih fun y hy => h y (List.mem_cons_of_mem _ hy)]; rfl
theorem sm_add (f g : α → Int) (xs : List α) : sm (fun x => f x + g x) xs = sm f xs + sm g xs := by
  induction xs with
  | nil => rfl
  | cons x xs ih => show f x + g x + sm _ xs = f x + sm f xs + (g x + sm g xs); rw [ih]; omega
theorem sm_neg (f : α → Int) (xs : List α) : sm (fun x => - f x) xs = - sm f xs := by
  induction xs with
  | nil => rfl
  | cons x xs ih => show - f x + sm _ xs = - (f x + sm f xs); rw [ih]; omega
theorem sm_perm (f : α → Int) {xs ys : List α} (h : xs.Perm ys) : sm f xs = sm f ys := by
  induction h with
  | nil => rfl
  | cons x _ ih => show f x + _ = f x + _; rw [ih]
  | swap x y l => show f y + (f x + sm f l) = f x + (f y + sm f l); omega
  | trans _ _ h1 h2 => exact h1.trans h2
theorem sm_swap (f : α → β → Int) (xs : List α) (ys : List β) : sm (fun x => sm (f x) ys) xs = sm (fun y => sm (fun x => f x y) xs) ys := by
  induction xs with
  | nil => exact (sm_zero fun _ _ => rfl).symm
  | cons x xs ih =>
    show sm (f x) ys + sm _ xs = sm (fun y => f x y + sm (fun x => f x y) xs) ys
    rw [ih, sm_add]
theorem sm_bd {f : α → Int} {xs : List α} {M : Int} (h : ∀ x ∈ xs, -M ≤ f x ∧ f x ≤ M) : -(M * xs.length) ≤ sm f xs ∧ sm f xs ≤ M * xs.length := by
  induction xs with
  | nil => simp [sm]
  | cons x xs ih =>
    have h1 := h x (List.mem_cons_self)
    have h2 := ih fun y hy => h y (List.mem_cons_of_mem _ hy)
    show -(M * ((xs.length + 1 : Nat) : Int)) ≤ f x + sm f xs ∧ f x + sm f xs ≤ M * ((xs.length + 1 : Nat) : Int)
    rw [Int.natCast_add, Int.mul_add]
    omega
theorem sm_map (f : β → Int) (g : α → β) (xs : List α) : sm f (xs.map g) = sm (fun x => f (g x)) xs := by
  induction xs with
  | nil => rfl
  | cons x xs ih => show f (g x) + _ = f (g x) + _; rw [ih]
/-- of a list in which one thing stands, once -/
theorem sm_one [DecidableEq β] (g : α → β) (c : Int) (b : β) {xs : List α} (h1 : (xs.map g).Nodup) (h2 : b ∈ xs.map g) : sm (fun x => if g x = b then c else 0) xs = c := by
  induction xs with
  | nil => cases h2
  | cons x xs ih =>
    rw [List.map_cons, List.nodup_cons] at h1
    show (if g x = b then c else 0) + sm _ xs = c
    by_cases e : g x = b
    · rw [if_pos e, sm_zero]
      · omega
      · intro y hy
        rw [if_neg]
        intro e2
        exact h1.1 (by rw [e, ← e2]; exact List.mem_map_of_mem hy)
    · rw [if_neg e, ih h1.2]
      · omega
      · rcases List.mem_cons.1 h2 with h | h
        · exact absurd h.symm e
        · exact h
end

/-- what lines have of a code -/
def lnOf (ls : List Ln) (s : ByteArray) : Int := sm (fun l => if l.1 = s then l.2 else 0) ls
/-- what an entry has of a code, in days -/
def enOf (s : ByteArray) (from' to : Int) (e : En) : Int := if e.day < from' ∨ to < e.day then 0 else lnOf e.ls s
/-- what entries have -/
def ofS (es : List En) (s : ByteArray) (from' to : Int) : Int := sm (enOf s from' to) es

theorem lnOf_bd {ls : List Ln} (h : ∀ x ∈ ls, okL x) (s : ByteArray) : -(1000000000000 * (ls.length : Int)) ≤ lnOf ls s ∧ lnOf ls s ≤ 1000000000000 * ls.length := by
  refine sm_bd fun x hx => ?_
  have := h x hx
  unfold okL at this
  split <;> omega
theorem en_lines {x : En} (h : enc x = 0) : x.ls.length ≤ 12 ∧ 2 ≤ x.ls.length ∧ sm (·.2) x.ls = 0 ∧ (∀ l ∈ x.ls, okL l) ∧ (x.ls.map (·.1)).Nodup ∧ 0 ≤ x.day ∧ x.day ≤ 292193 ∧ keyB x.key = true := by
  obtain ⟨h1, h2, h3, h4⟩ := entc_ok h
  obtain ⟨k1, k2, k3, k4, k5⟩ := linec_iff.1 h4
  refine ⟨k1, k2, ?_, k4, k5, h2, h3, h1⟩
  rw [← k3]
  clear h h1 h2 h3 h4 k1 k2 k3 k4 k5
  induction x.ls with
  | nil => rfl
  | cons y ys ih => show y.2 + sm _ ys = _; rw [ih]; simp
theorem enOf_bd {x : En} (h : enc x = 0) (s : ByteArray) (f t : Int) : -12000000000000 ≤ enOf s f t x ∧ enOf s f t x ≤ 12000000000000 := by
  unfold enOf
  split
  · omega
  · obtain ⟨h1, _, _, h4, _⟩ := en_lines h
    have := lnOf_bd h4 s
    omega
theorem ofS_bd {es : List En} (h : ∀ x ∈ es, enc x = 0) (hl : es.length ≤ 60) (s : ByteArray) (f t : Int) : -720000000000000 ≤ ofS es s f t ∧ ofS es s f t ≤ 720000000000000 := by
  have := sm_bd (f := enOf s f t) (M := 12000000000000) (xs := es) fun x hx => enOf_bd (h x hx) s f t
  unfold ofS
  omega
/-- the codes of accounts in order are all different -/
theorem acc_ok {ac : List Ln} (h : acc ac = 0) : ac.length ≤ 24 ∧ (ac.map (·.1)).Nodup ∧ (∀ a ∈ ac, codeB a.1 = true ∧ 0 ≤ a.2 ∧ a.2 ≤ 4) ∧ ac.Pairwise fun a b => ltB a.1 b.1 = true := by
  unfold acc at h
  split at h
  · omega
  · have hat : ∀ k, k < ac.length → codeB (cd ac k) = true ∧ 0 ≤ am ac k ∧ am ac k ≤ 4 ∧ (0 < k → ltB (cd ac (k - 1)) (cd ac k) = true) := by
      intro k hk
      have h1 := acUp_at h hk
      unfold acAt at h1
      split at h1
      · omega
      · rename_i h2
        split at h1
        · omega
        · rename_i h3
          split at h1
          · omega
          · rename_i h4
            refine ⟨by simpa using h2, by omega, by omega, fun h0 => ?_⟩
            cases hl : ltB (cd ac (k - 1)) (cd ac k)
            · exact absurd ⟨h0, hl⟩ h4
            · rfl
    have hlt : ∀ d i : Nat, i + d + 1 < ac.length → ltB (cd ac i) (cd ac (i + d + 1)) = true := by
      intro d
      induction d with
      | zero => intro i hi; exact (hat (i + 1) (by omega)).2.2.2 (by omega)
      | succ d ih => intro i hi; exact ltB_trans (ih i (by omega)) ((hat (i + (d + 1) + 1) (by omega)).2.2.2 (by omega))
    have hpw : ac.Pairwise fun a b => ltB a.1 b.1 = true := by
      rw [List.pairwise_iff_getElem]
      intro i j hi hj hij
      have := hlt (j - i - 1) i (by omega)
      rw [show i + (j - i - 1) + 1 = j by omega, (cd_at ac i hi).1, (cd_at ac j hj).1] at this
      exact this
    refine ⟨by omega, ?_, ?_, hpw⟩
    · unfold List.Nodup
      rw [List.pairwise_map]
      exact hpw.imp fun {a b} h e => by rw [e, ltB_irrefl] at h; cases h
    · intro a ha
      obtain ⟨i, hi, rfl⟩ := List.mem_iff_getElem.1 ha
      have := hat i hi
      rw [(cd_at ac i hi).1, (cd_at ac i hi).2] at this
      exact ⟨this.1, this.2.1, this.2.2.1⟩
theorem hasB_mem (ac : List Ln) (s : ByteArray) : hasB ac s = true ↔ s ∈ ac.map (·.1) := by
  unfold hasB
  rw [List.any_eq_true, List.mem_map]
  constructor
  · rintro ⟨x, h1, h2⟩; exact ⟨x, h1, by simpa using h2⟩
  · rintro ⟨x, h1, h2⟩; exact ⟨x, h1, by simpa using h2⟩
theorem known_has {ac : List Ln} {x : En} (h : knownB ac x = true) {l : Ln} (hl : l ∈ x.ls) : l.1 ∈ ac.map (·.1) := by
  unfold knownB at h
  rw [List.all_eq_true] at h
  exact (hasB_mem ac l.1).1 (h l hl)
/-- all accounts together have what all lines have -/
theorem all_lines {ac : List Ln} {x : En} (h1 : acc ac = 0) (h2 : knownB ac x = true) : sm (fun a : Ln => lnOf x.ls a.1) ac = sm (·.2) x.ls := by
  obtain ⟨_, hnd, _⟩ := acc_ok h1
  unfold lnOf
  rw [sm_swap]
  refine sm_congr fun l hl => ?_
  have := sm_one (fun a : Ln => a.1) l.2 l.1 hnd (known_has h2 hl)
  refine Eq.trans (sm_congr fun a _ => ?_) this
  by_cases e : l.1 = a.1
  · rw [if_pos e, if_pos e.symm]
  · rw [if_neg e, if_neg (fun h => e h.symm)]
/-- PACIOLI -/
theorem all_zero {b : Bok} (h : BOk b) (f t : Int) : sm (fun a : Ln => ofS b.en a.1 f t) b.ac = 0 := by
  unfold ofS
  rw [sm_swap]
  refine sm_zero fun e he => ?_
  unfold enOf
  by_cases hd : e.day < f ∨ t < e.day
  · exact sm_zero fun a _ => by rw [if_pos hd]
  · rw [sm_congr (g := fun a : Ln => lnOf e.ls a.1) (fun a _ => by rw [if_neg hd]), all_lines h.ac (h.known e he)]
    exact (en_lines (h.enc e he)).2.2.1
theorem ofS_ins (x : En) (es : List En) (s : ByteArray) (f t : Int) : ofS (ins x es) s f t = ofS es s f t + enOf s f t x := by
  unfold ofS
  rw [sm_perm _ (ins_perm x es)]
  show enOf s f t x + _ = _
  omega
/-- of lines whose codes are all different one has it -/
theorem lnOf_one {ls : List Ln} (h : (ls.map (·.1)).Nodup) {l : Ln} (hl : l ∈ ls) : lnOf ls l.1 = l.2 := by
  have := sm_one (fun a : Ln => a.1) l.2 l.1 h (List.mem_map_of_mem hl)
  unfold lnOf
  refine Eq.trans (sm_congr fun a ha => ?_) this
  by_cases e : a.1 = l.1
  · rw [if_pos e, if_pos e]
    obtain ⟨i, hi, rfl⟩ := List.mem_iff_getElem.1 ha
    obtain ⟨j, hj, rfl⟩ := List.mem_iff_getElem.1 hl
    have hpw : ∀ (i j : Nat) (hi : i < ls.length) (hj : j < ls.length), i < j → ls[i].1 ≠ ls[j].1 := List.pairwise_iff_getElem.1 (List.pairwise_map.1 (show (ls.map (·.1)).Pairwise (· ≠ ·) from h))
    have : i = j := by
      rcases Nat.lt_trichotomy i j with hlt | hlt | hlt
      · exact absurd e (hpw i j hi hj hlt)
      · exact hlt
      · exact absurd e.symm (hpw j i hj hi hlt)
    subst this; rfl
  · rw [if_neg e, if_neg e]
theorem lnOf_none {ls : List Ln} {s : ByteArray} (h : s ∉ ls.map (·.1)) : lnOf ls s = 0 :=
  sm_zero fun l hl => by rw [if_neg]; intro e; exact h (by rw [← e]; exact List.mem_map_of_mem hl)
theorem lnOf_turn (ls : List Ln) (s : ByteArray) : lnOf (turn ls) s = - lnOf ls s := by
  unfold lnOf turn
  rw [sm_map, ← sm_neg]
  refine sm_congr fun l _ => ?_
  show (if l.1 = s then -l.2 else 0) = - (if l.1 = s then l.2 else 0)
  split <;> simp

/-- what Balance says -/
def balc (b : Bok) (s : ByteArray) (day : Int) : Int := if bookc b ≠ 0 then bookc b else if hasB b.ac s = false then 4 else if day < 0 ∨ 292193 < day then 1 else 0
def balv (b : Bok) (s : ByteArray) (day : Int) : Int := if balc b s day ≠ 0 then 0 else ofS b.en s 0 day

end Go.Proofs.Ytnahbblglalagaa
