/- The plain law of tying: first come, first served, on both sides by days, ties js many js any way can (Glover). No program in sight. -/
import Derived.Test.YtphkckonnogjmaaIsort
import Derived.Test.YtphkckonnogjmaaPlainSp
import Derived.Test.YtphkckonnogjmaaPlainU
namespace Go.Proofs.Ytphkckonnogjmaa
open Stb
set_option linter.unusedVariables false

/-- so many of the left ones can be tied, each to one of the right ones of its own -/
inductive Can (ok : Int → Int → Prop) : List Int → List Int → Nat → Prop
  | nil (bs : List Int) : Can ok [] bs 0
  | skip {i : Int} {js bs : List Int} {m : Nat} : Can ok js bs m → Can ok (i :: js) bs m
  | take {i k : Int} {js bs R : List Int} {m : Nat} : bs.Perm (k :: R) → ok i k → Can ok js R m → Can ok (i :: js) bs (m + 1)
theorem Can.perm {ok : Int → Int → Prop} {js bs cs : List Int} {m : Nat} (h : Can ok js bs m) (hp : bs.Perm cs) : Can ok js cs m := by
  induction h generalizing cs with
  | nil bs => exact .nil _
  | skip _ ih => exact .skip (ih hp)
  | take p o c _ => exact .take (hp.symm.trans p) o c
theorem Can.zero {ok : Int → Int → Prop} (js bs : List Int) : Can ok js bs 0 := by
  induction js with
  | nil => exact .nil _
  | cons i js ih => exact .skip ih
theorem Can.none {ok : Int → Int → Prop} {js : List Int} {m : Nat} (h : Can ok js [] m) : m = 0 := by
  induction js generalizing m with
  | nil => cases h; rfl
  | cons i js ih =>
    cases h with
    | skip h => exact ih h
    | take p _ _ => exact absurd p.length_eq (by simp)
theorem Can.mono {ok ok' : Int → Int → Prop} {js bs : List Int} {m : Nat} (h : Can ok js bs m) (hm : ∀ i ∈ js, ∀ k ∈ bs, ok i k → ok' i k) : Can ok' js bs m := by
  induction h with
  | nil bs => exact .nil _
  | skip _ ih => exact .skip (ih fun i hi k hk => hm i (by simp [hi]) k hk)
  | take p o c ih => exact .take p (hm _ (by simp) _ (p.mem_iff.2 (by simp)) o) (ih fun i hi k hk => hm i (by simp [hi]) k (p.mem_iff.2 (by simp [hk])))
theorem Can.wide {ok : Int → Int → Prop} {js bs : List Int} {m : Nat} (h : Can ok js bs m) (x : Int) : Can ok js (x :: bs) m := by
  induction h with
  | nil bs => exact .nil _
  | skip _ ih => exact .skip ih
  | take p o c ih => exact .take ((p.cons x).trans (List.Perm.swap ..)) o ih
theorem Can.left {ok : Int → Int → Prop} {js cs bs : List Int} {m : Nat} (h : Can ok js bs m) (hp : js.Perm cs) : Can ok cs bs m := by
  induction hp generalizing bs m with
  | nil => exact h
  | cons x _ ih =>
    cases h with
    | skip h => exact .skip (ih h)
    | take p o c => exact .take p o (ih c)
  | swap x y l =>
    cases h with
    | skip h =>
      cases h with
      | skip h => exact .skip (.skip h)
      | take p o c => exact .take p o (.skip c)
    | take p o c =>
      cases c with
      | skip h => exact .skip (.take p o h)
      | take p2 o2 c2 => exact .take (p.trans ((p2.cons _).trans (List.Perm.swap ..))) o2 (.take (List.Perm.refl _) o c2)
  | trans _ _ h1 h2 => exact h2 (h1 h)
theorem Can.flip {ok : Int → Int → Prop} {js bs : List Int} {m : Nat} (h : Can ok js bs m) : Can (fun k i => ok i k) bs js m := by
  induction h with
  | nil bs => exact Can.zero _ _
  | skip _ ih => exact ih.wide _
  | take p o c ih => exact (Can.take (ok := fun k i => ok i k) (List.Perm.refl _) o ih).left p.symm
/-- one of the right ones less costs one at most -/
theorem Can.del {ok : Int → Int → Prop} {js R : List Int} {y : Int} {m : Nat} (h : Can ok js (y :: R) m) : ∃ m', m ≤ m' + 1 ∧ Can ok js R m' := by
  induction js generalizing R m with
  | nil => cases h; exact ⟨0, by omega, .nil _⟩
  | cons i js ih =>
    cases h with
    | skip h => obtain ⟨m', h1, h2⟩ := ih h; exact ⟨m', h1, .skip h2⟩
    | @take _ k _ _ R' m p o c =>
      by_cases e : k = y
      · subst e
        exact ⟨m, Nat.le_refl _, .skip (c.perm p.symm.cons_inv)⟩
      · have hk : k ∈ R := by
          have : k ∈ y :: R := p.mem_iff.2 (by simp)
          simpa [e] using this
        have p1 := List.perm_cons_erase hk
        have p2 : R'.Perm (y :: R.erase k) := (p.symm.trans ((p1.cons y).trans (List.Perm.swap ..))).cons_inv
        obtain ⟨m', h1, h2⟩ := ih (c.perm p2)
        exact ⟨m' + 1, by omega, .take p1 o h2⟩
/-- one of the right ones for another one that serves wherever it does -/
theorem Can.exch {ok : Int → Int → Prop} {js R : List Int} {y z : Int} {m : Nat} (h : Can ok js (y :: R) m) (hz : ∀ i ∈ js, ok i y → ok i z) : Can ok js (z :: R) m := by
  induction js generalizing R m with
  | nil => cases h; exact .nil _
  | cons i js ih =>
    have hz' : ∀ i ∈ js, ok i y → ok i z := fun i hi => hz i (by simp [hi])
    cases h with
    | skip h => exact .skip (ih h hz')
    | @take _ k _ _ R' m p o c =>
      by_cases e : k = y
      · subst e
        exact .take (List.Perm.refl _) (hz i (by simp) o) (c.perm p.symm.cons_inv)
      · have hk : k ∈ R := by
          have : k ∈ y :: R := p.mem_iff.2 (by simp)
          simpa [e] using this
        have p1 := List.perm_cons_erase hk
        have p2 : R'.Perm (y :: R.erase k) := (p.symm.trans ((p1.cons y).trans (List.Perm.swap ..))).cons_inv
        exact .take ((p1.cons z).trans (List.Perm.swap ..)) o (ih (c.perm p2) hz')
/-- the first one takes the first that serves: nothing is lost -/
theorem Can.first {ok : Int → Int → Prop} {js bs B : List Int} {i y : Int} {m : Nat} (h : Can ok (i :: js) bs m) (hp : bs.Perm (y :: B)) (hx : ∀ z ∈ bs, ok i z → ∀ j ∈ js, ok j y → ok j z) :
    ∃ m', m ≤ m' + 1 ∧ Can ok js B m' := by
  cases h with
  | skip h => exact (h.perm hp).del
  | @take _ z _ _ R m p o c =>
    by_cases e : z = y
    · subst e; exact ⟨m, Nat.le_refl _, c.perm (p.symm.trans hp).cons_inv⟩
    · have hy : y ∈ R := by
        have : y ∈ z :: R := (p.symm.trans hp).mem_iff.2 (by simp)
        simpa [Ne.symm e] using this
      have p1 := List.perm_cons_erase hy
      have p2 : B.Perm (z :: R.erase y) := (hp.symm.trans (p.trans ((p1.cons z).trans (List.Perm.swap ..)))).cons_inv
      have c1 : Can ok js (z :: R.erase y) m := (c.perm p1).exch fun j hj => hx z (p.mem_iff.2 (by simp)) o j hj
      exact ⟨m, Nat.le_refl _, c1.perm p2.symm⟩
/-- a way to tie, told by what each of the left ones has (below 0: nothing) -/
theorem can_of {ok : Int → Int → Prop} (f : Int → Int) {js bs : List Int} (ha : js.Nodup) (h1 : ∀ i ∈ js, 0 ≤ f i → f i ∈ bs ∧ ok i (f i)) (h2 : ∀ i ∈ js, ∀ j ∈ js, 0 ≤ f i → f i = f j → i = j) :
    Can ok js bs (js.filter fun i => decide (0 ≤ f i)).length := by
  induction js generalizing bs with
  | nil => exact .nil _
  | cons i js ih =>
    rw [List.nodup_cons] at ha
    by_cases c : 0 ≤ f i
    · rw [List.filter_cons_of_pos (by simpa using c), List.length_cons]
      obtain ⟨m1, o1⟩ := h1 i (by simp) c
      refine .take (List.perm_cons_erase m1) o1 (ih ha.2 (fun j hj hp => ?_) fun j hj k hk => h2 j (by simp [hj]) k (by simp [hk]))
      obtain ⟨m2, o2⟩ := h1 j (by simp [hj]) hp
      refine ⟨?_, o2⟩
      have hne : f j ≠ f i := fun e => ha.1 (by rw [← h2 j (by simp [hj]) i (by simp) hp e]; exact hj)
      exact (List.mem_erase_of_ne hne).2 m2
    · rw [List.filter_cons_of_neg (by simpa using c)]
      exact .skip (ih ha.2 (fun j hj => h1 j (by simp [hj])) fun j hj k hk => h2 j (by simp [hj]) k (by simp [hk]))

/-- may the items i of a and k of b be tied? -/
def okI (a b : List Pr) (w : Int) (i k : Int) : Bool :=
  decide (py a i.toNat = py b k.toNat) && (decide (px a i.toNat - px b k.toNat ≤ w) && decide (-(px a i.toNat - px b k.toNat) ≤ w))
def okP (a b : List Pr) (w : Int) (i k : Int) : Prop := okI a b w i k = true
theorem okP_iff {a b : List Pr} {w i k : Int} : okP a b w i k ↔ py a i.toNat = py b k.toNat ∧ px a i.toNat - px b k.toNat ≤ w ∧ -(px a i.toNat - px b k.toNat) ≤ w := by
  unfold okP okI; simp
def ub (us : List Bool) (k : Int) : Bool := us.getD k.toNat false
def ser (a b : List Pr) (w : Int) (us : List Bool) (i k : Int) : Bool := !(ub us k) && okI a b w i k
def tstep (a b : List Pr) (w : Int) (ob : List Int) (s : List Int × List Bool) (i : Int) : List Int × List Bool :=
  match ob.find? (ser a b w s.2 i) with
  | none => s
  | some k => (s.1.set i.toNat k, s.2.set k.toNat true)
def tieS (a b : List Pr) (w : Int) (ob : List Int) (s : List Int × List Bool) (js : List Int) : List Int × List Bool := js.foldl (tstep a b w ob) s
def dord (l : List Pr) : List Int := isort (fun i => px l i.toNat) (idx l.length)
def tieF (a b : List Pr) (w : Int) : List Int := (tieS a b w (dord b) (List.replicate a.length (-1), List.replicate b.length false) (dord a)).1
def tied (l : List Int) : Nat := (l.filter fun k => decide (0 ≤ k)).length

theorem dord_perm (l : List Pr) : (dord l).Perm (idx l.length) := isort_perm _
theorem dord_nodup (l : List Pr) : (dord l).Nodup := (dord_perm l).nodup_iff.2 (idx_nodup _)
theorem dord_mem {l : List Pr} {x : Int} : x ∈ dord l ↔ ∃ i : Nat, i < l.length ∧ x = (i : Int) := (dord_perm l).mem_iff.trans mem_idx

/-- what is so of each state -/
structure Tst (a b : List Pr) (w : Int) (s : List Int × List Bool) : Prop where
  l1 : s.1.length = a.length
  l2 : s.2.length = b.length
  at_ : ∀ i : Nat, i < a.length → ei s.1 i = -1 ∨ ∃ k : Nat, k < b.length ∧ ei s.1 i = (k : Int) ∧ s.2.getD k false = true ∧ okP a b w i k
  once : ∀ i j : Nat, i < a.length → j < a.length → 0 ≤ ei s.1 i → ei s.1 i = ei s.1 j → i = j
theorem ei_set {l : List Int} {i j : Nat} {v : Int} (h : i < l.length) : ei (l.set i v) j = if i = j then v else ei l j := by
  unfold ei
  rw [List.getD_eq_getElem?_getD, List.getElem?_set]
  by_cases e : i = j
  · subst e; rw [if_pos rfl, if_pos h, if_pos rfl]; rfl
  · rw [if_neg e, if_neg e, List.getD_eq_getElem?_getD]
theorem getD_setb {l : List Bool} {i j : Nat} (h : i < l.length) : (l.set i true).getD j false = if i = j then true else l.getD j false := by
  rw [List.getD_eq_getElem?_getD, List.getElem?_set]
  by_cases e : i = j
  · subst e; rw [if_pos rfl, if_pos h, if_pos rfl]; rfl
  · rw [if_neg e, if_neg e, List.getD_eq_getElem?_getD]
theorem Tst.zero (a b : List Pr) (w : Int) : Tst a b w (List.replicate a.length (-1), List.replicate b.length false) := by
  have e : ∀ i, i < a.length → ei (List.replicate a.length (-1)) i = -1 := fun i hi => by
    unfold ei; rw [List.getD_eq_getElem?_getD, List.getElem?_replicate, if_pos hi]; rfl
  refine ⟨by simp, by simp, fun i hi => .inl (e i hi), fun i j hi hj h => ?_⟩
  rw [e i hi] at h; omega
section
variable {a b : List Pr} {w : Int}
theorem Tst.step {s : List Int × List Bool} (h : Tst a b w s) {i k : Nat} (hi : i < a.length) (hk : k < b.length) (ho : okP a b w i k) (hu : s.2.getD k false = false) (h0 : ei s.1 i = -1) :
    Tst a b w (s.1.set i k, s.2.set k true) := by
  obtain ⟨l1, l2, h1, h2⟩ := h
  have new : ∀ j : Nat, j < a.length → ei s.1 j ≠ (k : Int) := fun j hj e => by
    rcases h1 j hj with q | ⟨k', _, q1, q2, _⟩
    · omega
    · have : k' = k := by omega
      subst this; rw [hu] at q2; cases q2
  refine ⟨by simp [l1], by simp [l2], fun j hj => ?_, fun j j' hj hj' => ?_⟩
  · show ei (s.1.set i k) j = -1 ∨ ∃ k' : Nat, k' < b.length ∧ ei (s.1.set i k) j = k' ∧ (s.2.set k true).getD k' false = true ∧ okP a b w j k'
    rw [ei_set (by omega)]
    by_cases e : i = j
    · subst e; rw [if_pos rfl]
      exact .inr ⟨k, hk, rfl, by rw [getD_setb (by omega), if_pos rfl], ho⟩
    · rw [if_neg e]
      rcases h1 j hj with q | ⟨k', q1, q2, q3, q4⟩
      · exact .inl q
      · refine .inr ⟨k', q1, q2, ?_, q4⟩
        rw [getD_setb (by omega)]
        split
        · rfl
        · exact q3
  · show 0 ≤ ei (s.1.set i k) j → ei (s.1.set i k) j = ei (s.1.set i k) j' → j = j'
    rw [ei_set (by omega), ei_set (by omega)]
    by_cases e : i = j <;> by_cases e' : i = j'
    · omega
    · rw [if_pos e, if_neg e']; intro _ h; exact absurd h.symm (new j' hj')
    · rw [if_neg e, if_pos e']; intro _ h; exact absurd h (new j hj)
    · rw [if_neg e, if_neg e']; exact h2 j j' hj hj'
theorem tied_set {l : List Int} {i : Nat} {v : Int} (hi : i < l.length) (h0 : ei l i = -1) (hv : 0 ≤ v) : tied (l.set i v) = tied l + 1 := by
  induction l generalizing i with
  | nil => simp at hi
  | cons x l ih =>
    cases i with
    | zero =>
      have hx : x = -1 := by simpa [ei] using h0
      subst hx
      unfold tied
      rw [List.set_cons_zero, List.filter_cons_of_pos (by simpa using hv), List.filter_cons_of_neg (by simp)]
      simp
    | succ i =>
      have h0' : ei l i = -1 := by simpa [ei] using h0
      have := ih (by simpa using hi) h0'
      unfold tied at this ⊢
      rw [List.set_cons_succ]
      by_cases c : 0 ≤ x
      · rw [List.filter_cons_of_pos (by simpa using c), List.filter_cons_of_pos (by simpa using c)]; simp [this]
      · rw [List.filter_cons_of_neg (by simpa using c), List.filter_cons_of_neg (by simpa using c), this]
/-- those not yet used -/
def free (ob : List Int) (us : List Bool) : List Int := ob.filter fun k => !(ub us k)
theorem free_set {us : List Bool} {ob : List Int} {k : Nat} (hn : ob.Nodup) (hm : (k : Int) ∈ ob) (hp : ∀ x ∈ ob, 0 ≤ x) (hk : k < us.length) (hu : ub us k = false) : (free ob us).Perm ((k : Int) :: free ob (us.set k true)) := by
  have m : (k : Int) ∈ free ob us := List.mem_filter.2 ⟨hm, by simp [hu]⟩
  have e : free ob (us.set k true) = (free ob us).erase (k : Int) := by
    unfold free
    rw [List.Nodup.erase_eq_filter (hn.filter _), List.filter_filter]
    refine List.filter_congr fun x hx => ?_
    have h0 := hp x hx
    unfold ub
    rw [getD_setb hk]
    by_cases e : k = x.toNat
    · rw [if_pos e]
      have : x = (k : Int) := by omega
      subst this; simp
    · rw [if_neg e]
      have : ¬ x = (k : Int) := by omega
      simp [this]
  rw [e]
  exact List.perm_cons_erase m
theorem tie_most {js : List Int} {s : List Int × List Bool} {m : Nat} (hs : Tst a b w s) (hn : js.Nodup) (ha : ∀ x ∈ js, ∃ i : Nat, i < a.length ∧ x = (i : Int) ∧ ei s.1 i = -1) (hsrt : Srt (fun i => px a i.toNat) js)
    (hc : Can (okP a b w) js (free (dord b) s.2) m) : Tst a b w (tieS a b w (dord b) s js) ∧ tied s.1 + m ≤ tied (tieS a b w (dord b) s js).1 := by
  induction js generalizing s m with
  | nil => cases hc; exact ⟨hs, Nat.le_refl _⟩
  | cons x js ih =>
    obtain ⟨i, hi, rfl, h0⟩ := ha x (by simp)
    rw [List.nodup_cons] at hn
    unfold Srt at hsrt
    rw [List.pairwise_cons] at hsrt
    show Tst a b w (tieS a b w (dord b) (tstep a b w (dord b) s i) js) ∧ tied s.1 + m ≤ tied (tieS a b w (dord b) (tstep a b w (dord b) s i) js).1
    have hfs : (free (dord b) s.2).find? (okI a b w i) = (dord b).find? (ser a b w s.2 i) := by
      unfold free
      rw [List.find?_filter]
      congr 1
      funext k
      unfold ser
      simp
    cases hf : (dord b).find? (ser a b w s.2 i) with
    | none =>
      have e : tstep a b w (dord b) s i = s := by unfold tstep; rw [hf]
      rw [e]
      have none_ : ∀ z ∈ free (dord b) s.2, ¬ okP a b w i z := by
        rw [← hfs, List.find?_eq_none] at hf
        intro z hz; exact hf z hz
      have hc' : Can (okP a b w) js (free (dord b) s.2) m := by
        cases hc with
        | skip h => exact h
        | take p o _ => exact absurd o (none_ _ (p.mem_iff.2 (by simp)))
      exact ih hs hn.2 (fun z hz => ha z (by simp [hz])) hsrt.2 hc'
    | some y =>
      obtain ⟨k, hk, rfl⟩ := dord_mem.1 (List.mem_of_find?_eq_some hf)
      have hser := List.find?_some hf
      have hu : ub s.2 (k : Int) = false := by unfold ser at hser; simp at hser; exact hser.1
      have ho : okP a b w i k := by unfold ser at hser; simp at hser; exact hser.2
      have e : tstep a b w (dord b) s i = (s.1.set i k, s.2.set k true) := by unfold tstep; rw [hf]; simp
      rw [e]
      have hs' := hs.step hi hk ho (by simpa [ub] using hu) h0
      have hfree := free_set (us := s.2) (dord_nodup b) (dord_mem.2 ⟨k, hk, rfl⟩) (fun x hx => by obtain ⟨j, _, rfl⟩ := dord_mem.1 hx; omega) (by rw [hs.l2]; exact hk) hu
      have hfirst : ∀ z ∈ free (dord b) s.2, okP a b w i z → px b k ≤ px b z.toNat := by
        intro z hz hz2
        rw [← hfs] at hf
        have srt : Srt (fun i => px b i.toNat) (free (dord b) s.2) := (isort_srt (key := fun i : Int => px b i.toNat) (idx b.length)).sublist List.filter_sublist
        obtain ⟨_, l1, l2, e2, hno⟩ := List.find?_eq_some_iff_append.1 hf
        rw [e2] at hz srt
        unfold Srt at srt
        rcases List.mem_append.1 hz with q | q
        · have := hno z q
          unfold okP at hz2
          rw [hz2] at this; cases this
        · rcases List.mem_cons.1 q with rfl | q
          · rw [Int.toNat_natCast]; exact Int.le_refl _
          · have := (List.pairwise_cons.1 (List.pairwise_append.1 srt).2.1).1 z q
            simpa using this
      obtain ⟨m', h1, h2⟩ := hc.first hfree (fun z hz hz2 j hj hj2 => by
        have f1 := hfirst z hz hz2
        have f2 := hsrt.1 j hj
        rw [okP_iff] at hz2 hj2 ho ⊢
        simp only [Int.toNat_natCast] at *
        omega)
      have := ih hs' hn.2 (fun z hz => by
        obtain ⟨j, hj, rfl, hj0⟩ := ha z (by simp [hz])
        refine ⟨j, hj, rfl, ?_⟩
        show ei (s.1.set i k) j = -1
        rw [ei_set (by rw [hs.l1]; exact hi), if_neg (fun e => hn.1 (by rw [e]; exact hz))]
        exact hj0) hsrt.2 h2
      refine ⟨this.1, ?_⟩
      have e2 := this.2
      have e3 : tied (s.1.set i k) = tied s.1 + 1 := tied_set (by rw [hs.l1]; exact hi) h0 (by omega)
      rw [e3] at e2
      omega
end

theorem ei_rep (n i : Nat) (h : i < n) : ei (List.replicate n (-1)) i = -1 := by
  unfold ei; rw [List.getD_eq_getElem?_getD, List.getElem?_replicate, if_pos h]; rfl
theorem tied_rep (n : Nat) : tied (List.replicate n (-1)) = 0 := by
  unfold tied; rw [List.filter_eq_nil_iff.2 fun x hx => by rw [(List.mem_replicate.1 hx).2]; simp]; rfl
theorem free_zero (b : List Pr) : free (dord b) (List.replicate b.length false) = dord b := by
  unfold free
  refine List.filter_eq_self.2 fun k _ => ?_
  unfold ub
  rw [List.getD_eq_getElem?_getD, List.getElem?_replicate]
  split <;> rfl
theorem tied_idx (l : List Int) : tied l = ((idx l.length).filter fun i => decide (0 ≤ ei l i.toNat)).length := by
  have e : l = (idx l.length).map fun i => ei l i.toNat := by
    apply List.ext_getElem (by simp [idx])
    intro i h1 h2
    simp [idx, ei, List.getD_eq_getElem?_getD, h1]
  conv => lhs; rw [e]
  unfold tied
  rw [List.filter_map, List.length_map]; rfl
section
variable (a b : List Pr) (w : Int)
/-- so it is, behind all -/
theorem tieF_st : Tst a b w (tieS a b w (dord b) (List.replicate a.length (-1), List.replicate b.length false) (dord a)) :=
  (tie_most (Tst.zero a b w) (dord_nodup a) (fun x hx => by
    obtain ⟨i, hi, rfl⟩ := dord_mem.1 hx
    exact ⟨i, hi, rfl, ei_rep _ _ hi⟩) (isort_srt _) (Can.zero _ _)).1
theorem tieF_len : (tieF a b w).length = a.length := (tieF_st a b w).l1
theorem tieF_at (i : Nat) (hi : i < a.length) : ei (tieF a b w) i = -1 ∨ ∃ k : Nat, k < b.length ∧ ei (tieF a b w) i = (k : Int) ∧ okP a b w i k := by
  rcases (tieF_st a b w).at_ i hi with h | ⟨k, h1, h2, _, h3⟩
  · exact .inl h
  · exact .inr ⟨k, h1, h2, h3⟩
theorem tieF_once (i j : Nat) (hi : i < a.length) (hj : j < a.length) (h : 0 ≤ ei (tieF a b w) i) (e : ei (tieF a b w) i = ei (tieF a b w) j) : i = j := (tieF_st a b w).once i j hi hj h e
theorem tieF_most {m : Nat} (h : Can (okP a b w) (idx a.length) (idx b.length) m) : m ≤ tied (tieF a b w) := by
  have := (tie_most (Tst.zero a b w) (dord_nodup a) (fun x hx => by
    obtain ⟨i, hi, rfl⟩ := dord_mem.1 hx
    exact ⟨i, hi, rfl, ei_rep _ _ hi⟩) (isort_srt _) (m := m) (by
      show Can _ _ (free (dord b) (List.replicate b.length false)) m
      rw [free_zero]
      exact (h.left (dord_perm a).symm).perm (dord_perm b).symm)).2
  have e : tied (List.replicate a.length (-1), List.replicate b.length false).1 = 0 := tied_rep _
  rw [e] at this
  unfold tieF
  omega
theorem tieF_can : Can (okP a b w) (idx a.length) (idx b.length) (tied (tieF a b w)) := by
  rw [tied_idx, tieF_len]
  refine can_of (fun i => ei (tieF a b w) i.toNat) (idx_nodup _) (fun x hx h => ?_) fun x hx y hy h e => ?_
  · obtain ⟨i, hi, rfl⟩ := mem_idx.1 hx
    simp only [Int.toNat_natCast] at h ⊢
    rcases tieF_at a b w i hi with q | ⟨k, q1, q2, q3⟩
    · omega
    · rw [q2]; exact ⟨mem_idx.2 ⟨k, q1, rfl⟩, q3⟩
  · obtain ⟨i, hi, rfl⟩ := mem_idx.1 hx
    obtain ⟨j, hj, rfl⟩ := mem_idx.1 hy
    simp only [Int.toNat_natCast] at h e
    rw [tieF_once a b w i j hi hj h e]
theorem tieF_flip : tied (tieF b a w) = tied (tieF a b w) := by
  have h : ∀ a b, tied (tieF a b w) ≤ tied (tieF b a w) := fun a b =>
    tieF_most b a w ((tieF_can a b w).flip.mono fun i _ k _ h => by rw [okP_iff] at h ⊢; omega)
  exact Nat.le_antisymm (h b a) (h a b)
theorem tieF_wider {v : Int} (h : w ≤ v) : tied (tieF a b w) ≤ tied (tieF a b v) :=
  tieF_most a b v ((tieF_can a b w).mono fun i _ k _ h => by rw [okP_iff] at h ⊢; omega)
theorem px_app (x : Pr) (i : Nat) (h : i < a.length) : px (a ++ [x]) i = px a i ∧ py (a ++ [x]) i = py a i := by
  unfold px py
  rw [List.getD_eq_getElem?_getD, List.getD_eq_getElem?_getD, List.getElem?_append_left h]; exact ⟨rfl, rfl⟩
theorem tieF_more (x : Pr) : tied (tieF a b w) ≤ tied (tieF (a ++ [x]) b w) := by
  refine tieF_most _ b w ?_
  rw [show (a ++ [x]).length = a.length + 1 by simp, idx_succ]
  have h : Can (okP (a ++ [x]) b w) (idx a.length) (idx b.length) (tied (tieF a b w)) := (tieF_can a b w).mono fun i hi k _ h => by
    obtain ⟨j, hj, rfl⟩ := mem_idx.1 hi
    rw [okP_iff] at h ⊢
    rw [Int.toNat_natCast] at h ⊢
    rw [(px_app a x j hj).1, (px_app a x j hj).2]; exact h
  exact (Can.skip (i := (a.length : Int)) h).left (List.perm_append_singleton _ _).symm
theorem tieF_self (h : 0 ≤ w) : tied (tieF a a w) = a.length := by
  have c := can_of (ok := okP a a w) (fun i => i) (idx_nodup a.length) (bs := idx a.length) (fun i hi _ => ⟨hi, by rw [okP_iff]; omega⟩) fun i _ j _ _ e => e
  rw [List.filter_eq_self.2 (fun x hx => by obtain ⟨i, _, rfl⟩ := mem_idx.1 hx; simp), idx_len] at c
  have h1 := tieF_most a a w c
  have h2 : tied (tieF a a w) ≤ (tieF a a w).length := List.length_filter_le _ _
  rw [tieF_len] at h2
  omega
theorem tieF_none (h : ∀ i k : Nat, i < a.length → k < b.length → py a i ≠ py b k) : tied (tieF a b w) = 0 := by
  unfold tied
  rw [List.filter_eq_nil_iff.2 fun x hx => ?_]
  · rfl
  · obtain ⟨i, hi, rfl⟩ := List.getElem_of_mem hx
    rw [tieF_len] at hi
    have e : ei (tieF a b w) i = (tieF a b w)[i]'(by rw [tieF_len]; exact hi) := by
      unfold ei; rw [List.getD_eq_getElem?_getD, List.getElem?_eq_getElem (by rw [tieF_len]; exact hi)]; rfl
    rcases tieF_at a b w i hi with q | ⟨k, q1, _, q3⟩
    · rw [← e, q]; simp
    · rw [okP_iff] at q3
      simp only [Int.toNat_natCast] at q3
      exact absurd q3.1 (h i k hi q1)
end

end Go.Proofs.Ytphkckonnogjmaa
