/- Slices in memory, whatever the elements: 'Rd w A vs': the slice at address A reads the cells vs. No program in sight. -/
import Derived.Test.YtohpibjjlfpaaaaGreatDoorPBookOwnZ1
import Derived.BigQuiet
import Derived.Deep.QuietTactic
import Derived.Handy
import Derived.Lib.Hide
import Derived.OpenShut
import Derived.Outline
import Derived.OwnWalk
import Derived.ProofKit
import Derived.RegionTactic
import Derived.WalkKit
namespace Go.Proofs.YtohpibjjlfpaaaaGreatDoor
open Go.ChangeShapes Go.WideShapes Go.ChangeAt Go.RowKit
set_option linter.unusedVariables false
set_option maxRecDepth 100000

theorem Mor.trans {w w1 w2 : World} (h : Mor w w1) (h' : Mor w1 w2) : Mor w w2 := by
  obtain ⟨bs, k, rfl⟩ := h'; exact h.more
@[go_sem, simp] theorem drawn_more (w : World) (bs : List Obj) (k : Nat) : (more w bs k).drawn = k := rfl

/-- the slice at A (nil let in where there are no cells) reads the cells vs -/
def Rd (w : World) (A : Option Addr) (vs : List Value) : Prop :=
  vs = [] ∨ ∃ b o, A = some ⟨b, o, none⟩ ∧ b < w.heap.size ∧ ∀ i, i < vs.length → w.cell? ⟨b, o + i, none⟩ = some (vs.getD i (.int .i64 0))

theorem Rd.nil (w : World) (A : Option Addr) : Rd w A [] := .inl rfl
theorem Rd.more {w : World} {A : Option Addr} {vs : List Value} {bs : List Obj} {k : Nat} (h : Rd w A vs) : Rd (more w bs k) A vs := by
  rcases h with rfl | ⟨b, o, rfl, hb, hc⟩
  · exact .inl rfl
  · exact .inr ⟨b, o, rfl, by rw [size_more]; omega, fun i hi => by rw [cell?_more _ _ _ _ _ hb]; exact hc i hi⟩
theorem Rd.drewN {w : World} {A : Option Addr} {vs : List Value} {k : Nat} (h : Rd w A vs) : Rd (w.drewN k) A vs := h
theorem Rd.drew {w : World} {A : Option Addr} {vs : List Value} (h : Rd w A vs) : Rd w.drew A vs := h
theorem Rd.alloc {w : World} {A : Option Addr} {vs : List Value} {ob : Obj} (h : Rd w A vs) : Rd (w.alloc ob) A vs := by
  rw [alloc_more]; exact h.more
theorem Rd.mor {w w' : World} {A : Option Addr} {vs : List Value} (h : Rd w A vs) (hm : Mor w w') : Rd w' A vs := by
  obtain ⟨bs, k, rfl⟩ := hm; exact h.more
theorem Rd.app {w : World} {A : Option Addr} {vs : List Value} {bs cs : List Obj} {k n : Nat} (h : Rd (Go.Proofs.YtohpibjjlfpaaaaGreatDoor.more w bs k) A vs) : Rd (Go.Proofs.YtohpibjjlfpaaaaGreatDoor.more w (bs ++ cs) n) A vs := by
  rw [← more_more w bs cs k n]; exact h.more
theorem Rd.to {w : World} {A : Option Addr} {vs : List Value} {bs cs : List Obj} {k n : Nat} (h : Rd (Go.Proofs.YtohpibjjlfpaaaaGreatDoor.more w bs k) A vs) (hp : bs <+: cs) : Rd (Go.Proofs.YtohpibjjlfpaaaaGreatDoor.more w cs n) A vs := by
  obtain ⟨ds, rfl⟩ := hp; exact h.app
theorem Rd.up {w : World} {A : Option Addr} {vs : List Value} {cs : List Obj} {n : Nat} (h : Rd w A vs) : Rd (Go.Proofs.YtohpibjjlfpaaaaGreatDoor.more w cs n) A vs := h.more
theorem Rd.draws {w : World} {A : Option Addr} {vs : List Value} {bs : List Obj} {k n : Nat} (h : Rd (Go.Proofs.YtohpibjjlfpaaaaGreatDoor.more w bs k) A vs) : Rd (Go.Proofs.YtohpibjjlfpaaaaGreatDoor.more w bs n) A vs := h
/-- a block that was just made -/
theorem Rd.new {w : World} {C : Array Value} {T : TypeId} {b : Nat} (vs : List Value) (hb : b = w.heap.size) (hC : C = vs.toArray) : Rd (w.alloc (.cells C T)) (some ⟨b, 0, none⟩) vs := by
  subst hb; subst hC
  refine .inr ⟨_, 0, rfl, by show w.heap.size < (w.heap.push _).size; simp, fun i hi => ?_⟩
  rw [Nat.zero_add, World.cell?_alloc_new]
  simp [List.getD_eq_getElem?_getD, hi]
/-- an owned row -/
theorem Rd.own {w : World} {base s n : Nat} {T : TypeId} {A : Option Addr} {c : Nat} {vs : List Value} (h : w.ownsRow base T s (.slice A n c) n vs) : Rd w A vs := by
  obtain ⟨hl, h | ⟨g, cap, cur, hv, hg, hb, h1, h2, h3, h4⟩⟩ := h
  · have : n = 0 := h.2
    subst this
    exact .inl (List.eq_nil_of_length_eq_zero (by simpa using hl))
  · injection hv with hA hn hc
    subst hA
    refine .inr ⟨g, 0, rfl, ?_, fun i hi => ?_⟩
    · rcases Nat.lt_or_ge g w.heap.size with hs | hs
      · exact hs
      · rw [Array.getElem?_eq_none (by omega)] at hb; simp at hb
    · have e : cur[i]? = some (vs.getD i (.int .i64 0)) := by
        have := congrArg (fun l : List Value => l[i]?) h4
        simp only [List.getElem?_take] at this
        rw [if_pos (by omega)] at this
        rw [← Array.getElem?_toList, this, List.getD_eq_getElem?_getD, List.getElem?_eq_getElem hi]
        rfl
      rw [Nat.zero_add]
      simp [World.cell?, hb, e]
/-- the shape of an owned row's value -/
theorem own_shape {w : World} {base s n : Nat} {T : TypeId} {v : Value} {vs : List Value} (h : w.ownsRow base T s v n vs) : ∃ A c, v = .slice A n c ∧ n ≤ c ∧ Rd w A vs ∧ (0 < n → ∃ g, A = some ⟨g, 0, none⟩ ∧ base ≤ g) := by
  have h0 := h
  obtain ⟨hl, hh | ⟨g, cap, cur, rfl, hg, hb, h1, h2, h3, h4⟩⟩ := h
  · obtain ⟨rfl, rfl⟩ := hh
    exact ⟨none, 0, rfl, Nat.le_refl _, Rd.own h0, fun h => by omega⟩
  · exact ⟨_, _, rfl, h1, Rd.own h0, fun _ => ⟨g, rfl, hg⟩⟩

/-- cells laid side by side, f of each -/
def flat {α : Type} (f : α → List Value) (xs : List α) : List Value := xs.flatMap f
theorem flat_snoc {α : Type} (f : α → List Value) (xs : List α) (x : α) : flat f (xs ++ [x]) = flat f xs ++ f x := by simp [flat]
theorem flat_len {α : Type} (f : α → List Value) (s : Nat) (hs : ∀ x, (f x).length = s) (xs : List α) : (flat f xs).length = xs.length * s := by
  induction xs with
  | nil => simp [flat]
  | cons x xs ih =>
    have e : flat f (x :: xs) = f x ++ flat f xs := by simp [flat]
    rw [e, List.length_append, ih, hs, List.length_cons, Nat.add_mul]; omega
theorem flat_get {α : Type} (f : α → List Value) (s : Nat) (hs : ∀ x, (f x).length = s) (xs : List α) (k j : Nat) (hk : k < xs.length) (hj : j < s) (d : Value) : (flat f xs).getD (k * s + j) d = (f xs[k]).getD j d := by
  induction xs generalizing k with
  | nil => simp at hk
  | cons x xs ih =>
    have e : flat f (x :: xs) = f x ++ flat f xs := by simp [flat]
    rw [e]
    cases k with
    | zero =>
      simp only [Nat.zero_mul, Nat.zero_add, List.getElem_cons_zero]
      rw [List.getD_eq_getElem?_getD, List.getD_eq_getElem?_getD, List.getElem?_append_left (by rw [hs]; exact hj)]
    | succ k =>
      simp only [List.length_cons] at hk
      simp only [List.getElem_cons_succ]
      rw [← ih k (by omega)]
      rw [List.getD_eq_getElem?_getD, List.getD_eq_getElem?_getD, List.getElem?_append_right (by rw [hs, Nat.add_mul]; omega), hs]
      congr 2
      rw [Nat.add_mul]; omega
/-- field j of element k, read -/
theorem Rd.field {α : Type} {w : World} {A : Option Addr} {f : α → List Value} {xs : List α} (s : Nat) (hs : ∀ x, (f x).length = s) (h : Rd w A (flat f xs)) (k : Nat) (hk : k < xs.length) (h1 : 0 < s) :
    ∃ b o, A = some ⟨b, o, none⟩ ∧ b < w.heap.size ∧ ∀ j, j < s → w.cell? ⟨b, o + k * s + j, none⟩ = some ((f xs[k]).getD j (.int .i64 0)) := by
  have hl := flat_len f s hs xs
  have hks : ∀ j, j < s → k * s + j < xs.length * s := by
    intro j hj
    have : (k + 1) * s ≤ xs.length * s := Nat.mul_le_mul_right s hk
    rw [Nat.add_mul] at this; omega
  rcases h with e | ⟨b, o, rfl, hb, hc⟩
  · rw [e] at hl
    have h2 := hks 0 h1
    rw [← hl] at h2
    exact absurd h2 (Nat.not_lt_zero _)
  · exact ⟨b, o, rfl, hb, fun j hj => by rw [Nat.add_assoc, hc _ (by rw [hl]; exact hks j hj), flat_get f s hs xs k j hk hj]⟩

end Go.Proofs.YtohpibjjlfpaaaaGreatDoor
