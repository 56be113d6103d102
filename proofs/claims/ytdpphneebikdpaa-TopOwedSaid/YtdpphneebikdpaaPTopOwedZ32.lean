/- Plain law of TopOwed: bills and payments that are posted keep the balance at what the items say. -/
import Derived.Test.YtdpphneebikdpaaPTopOwedZ1
import Derived.Test.YtdpphneebikdpaaPTopOwedZ2
import Derived.Test.YtdpphneebikdpaaPTopOwedZ3
import Derived.Test.YtdpphneebikdpaaPTopOwedZ4
import Derived.Test.YtdpphneebikdpaaPTopOwedZ5
import Derived.Test.YtdpphneebikdpaaPTopOwedZ6
import Derived.Test.YtdpphneebikdpaaPTopOwedZ7
import Derived.Test.YtdpphneebikdpaaPTopOwedZ8
import Derived.Test.YtdpphneebikdpaaPTopOwedZ9
import Derived.Test.YtdpphneebikdpaaPTopOwedZ10
import Derived.Test.YtdpphneebikdpaaPTopOwedZ11
import Derived.Test.YtdpphneebikdpaaPTopOwedZ12
import Derived.Test.YtdpphneebikdpaaPTopOwedZ13
import Derived.Test.YtdpphneebikdpaaPTopOwedZ14
import Derived.Test.YtdpphneebikdpaaPTopOwedZ15
import Derived.Test.YtdpphneebikdpaaPTopOwedZ16
import Derived.Test.YtdpphneebikdpaaPTopOwedZ17
import Derived.Test.YtdpphneebikdpaaPTopOwedZ18
import Derived.Test.YtdpphneebikdpaaPTopOwedZ19
import Derived.Test.YtdpphneebikdpaaPTopOwedZ20
import Derived.Test.YtdpphneebikdpaaPTopOwedZ21
import Derived.Test.YtdpphneebikdpaaPTopOwedZ22
import Derived.Test.YtdpphneebikdpaaPTopOwedZ23
import Derived.Test.YtdpphneebikdpaaPTopOwedZ24
import Derived.Test.YtdpphneebikdpaaPTopOwedZ25
import Derived.Test.YtdpphneebikdpaaPTopOwedZ26
import Derived.Test.YtdpphneebikdpaaPTopOwedZ27
import Derived.Test.YtdpphneebikdpaaPTopOwedZ28
import Derived.Test.YtdpphneebikdpaaPTopOwedZ29
import Derived.Test.YtdpphneebikdpaaPTopOwedZ30
import Derived.Test.YtdpphneebikdpaaPTopOwedZ31
import Derived.Test.YtdpphneebikdpaaRows
import Derived.BigQuiet
import Derived.BigRegion
import Derived.Carry
import Derived.DataElems
import Derived.Deep.DeepCutAuto
import Derived.Deep.LoopGhost
import Derived.Deep.OwnRows
import Derived.Deep.QuietTactic
import Derived.Deep.RegionHeld3
import Derived.Deep.RegionLaw
import Derived.Deep.RegionWith
import Derived.Deep.SlicePairs
import Derived.Deep.Slices
import Derived.Deep.Strs
import Derived.Handy
import Derived.Laws.AppendOwn
import Derived.Laws.CopyOwn
import Derived.Laws.CopyRow
import Derived.Laws.Cover1
import Derived.Laws.Externs
import Derived.Laws.IdiomCopy
import Derived.Laws.NewBlocks
import Derived.Lib.AppendZerosOnto
import Derived.Lib.Bytealg
import Derived.Lib.Hide
import Derived.Lib.Overlaps
import Derived.Lib.SliceRun
import Derived.Lib.Walk
import Derived.Maps.Own
import Derived.Maps.OwnSet
import Derived.Maps.Views
import Derived.OpenShut
import Derived.Outline
import Derived.OwnWalk
import Derived.PlainAid
import Derived.ProofKit
import Derived.RegionTactic
import Derived.Shelf.Abstract
import Derived.Shelf.RegionOpenPlain
import Derived.Sort.Walk0
import Derived.StringKeys
import Derived.WalkKit
import Derived.WalkSpells
namespace Go.Proofs.Ytdpphneebikdpaa
open Go.ChangeShapes Go.WideShapes Go.ChangeAt Go.RowKit Go.PlainAid Stb
set_option linter.unusedVariables false
set_option maxRecDepth 100000

def itL (v : Int) : List Ln := [(t15, v), (s40, -v)]
def paL (v : Int) : List Ln := [(s10, v), (t15, -v)]
/-- the book behind the first bills -/
def bib (xs : List Pr) : Nat → Bok
  | 0 => topB
  | i + 1 => postb (bib xs i) ⟨kyB i, (ge xs i).1, itL (ge xs i).2⟩
structure BiI (xs : List Pr) (k : Nat) : Prop where
  led : Led (bib xs k) (fun j => j < k)
  len : (bib xs k).en.length ≤ k
  a15 : ofS (bib xs k).en t15 0 292193 = tot (xs.take k)
theorem BiI.start (xs : List Pr) : BiI xs 0 := ⟨Led.start _, Nat.le_refl _, rfl⟩
theorem tot_snoc (xs : List Pr) (p : Pr) : tot (xs ++ [p]) = tot xs + p.2 := by
  induction xs with
  | nil => show p.2 + 0 = 0 + p.2; omega
  | cons x xs ih => show x.2 + tot (xs ++ [p]) = x.2 + tot xs + p.2; rw [ih]; omega
theorem tot_take (xs : List Pr) (k : Nat) (h : k < xs.length) : tot (xs.take (k + 1)) = tot (xs.take k) + (ge xs k).2 := by
  rw [List.take_succ_eq_append_getElem h, tot_snoc]
  congr 2
  have := ge_some h
  rw [List.getElem?_eq_getElem h] at this
  injection this
theorem BiI.step {xs : List Pr} {k : Nat} (h : BiI xs k) (hk : k < 30) (hl : k < xs.length) (hp : okP (ge xs k)) : BiI xs (k + 1) ∧ postc (bib xs k) ⟨kyB k, (ge xs k).1, itL (ge xs k).2⟩ = 0 := by
  obtain ⟨c10, c15, _, c40, _⟩ := top_codes
  obtain ⟨b10, b15, _, b40, _⟩ := top_has
  obtain ⟨h0, h9, v0, v9⟩ := hp
  obtain ⟨p1, p2, p3, p4⟩ := h.led.post (n := k) (by omega) (fun hh => Nat.lt_irrefl _ hh) (d := (ge xs k).1) (ls := itL (ge xs k).2) (two_linec c15 c40 (by decide) (by omega) v9 (by omega)) h0 h9 (fun l hl => by
    rcases List.mem_cons.1 hl with rfl | hl
    · exact b15
    · rw [List.mem_singleton.1 hl]; exact b40) (by have := h.len; omega)
  refine ⟨⟨p2.mono fun j hj => by rcases hj with hj | rfl <;> omega, by show (postb _ _).en.length ≤ _; rw [p4]; have := h.len; omega, ?_⟩, p1⟩
  show ofS (postb _ _).en t15 0 292193 = _
  rw [p3, h.a15, tot_take xs k hl]
  unfold itL
  rw [two_of (by omega) (by decide), if_neg (by omega), if_pos rfl]

/-- the items behind the first payments -/
def its (xs : List Pr) (ps : List Int) : Nat → List Pr
  | 0 => xs
  | i + 1 => pay (byDay (its xs ps i)) (ps.getD i 0)
def pmt (xs : List Pr) (ps : List Int) (i : Nat) : Int := ps.getD i 0 - lft (byDay (its xs ps i)) (ps.getD i 0)
def pab (b0 : Bok) (xs : List Pr) (ps : List Int) : Nat → Bok
  | 0 => b0
  | i + 1 => if pmt xs ps i = 0 then pab b0 xs ps i else postb (pab b0 xs ps i) ⟨kyB (100 + i), 292193, paL (pmt xs ps i)⟩
structure PaI (b0 : Bok) (xs : List Pr) (ps : List Int) (k : Nat) : Prop where
  led : Led (pab b0 xs ps k) (fun j => j < 30 ∨ (100 ≤ j ∧ j < 100 + k))
  len : (pab b0 xs ps k).en.length ≤ 30 + k
  a15 : ofS (pab b0 xs ps k).en t15 0 292193 = tot (its xs ps k)
  ok : ∀ p ∈ its xs ps k, okP p
  il : (its xs ps k).length ≤ 30
theorem PaI.start {xs : List Pr} (ps : List Int) {P : Nat} (h : BiI xs P) (hP : P ≤ 30) (hx : ∀ p ∈ xs.take P, okP p) : PaI (bib xs P) (xs.take P) ps 0 :=
  ⟨h.led.mono fun j hj => .inl (by omega), by have := h.len; show (bib xs P).en.length ≤ _; omega, h.a15, hx, by show (xs.take P).length ≤ 30; rw [List.length_take]; omega⟩
theorem PaI.step {b0 : Bok} {xs : List Pr} {ps : List Int} {k : Nat} (h : PaI b0 xs ps k) (hk : k < 20) (h0 : 0 ≤ ps.getD k 0) (h9 : ps.getD k 0 ≤ 100000) :
    PaI b0 xs ps (k + 1) ∧ 0 ≤ pmt xs ps k ∧ pmt xs ps k ≤ 100000 ∧ payc (its xs ps k) (ps.getD k 0) = 0 ∧ 0 ≤ lft (byDay (its xs ps k)) (ps.getD k 0) ∧ lft (byDay (its xs ps k)) (ps.getD k 0) ≤ ps.getD k 0 ∧ (pmt xs ps k ≠ 0 → postc (pab b0 xs ps k) ⟨kyB (100 + k), 292193, paL (pmt xs ps k)⟩ = 0) := by
  obtain ⟨c10, c15, _, c40, _⟩ := top_codes
  obtain ⟨b10, b15, _, b40, _⟩ := top_has
  have hb := byDay_ok h.ok
  obtain ⟨l0, l1⟩ := lft_bd h0 (ok_one hb)
  have m0 : 0 ≤ pmt xs ps k := by unfold pmt; omega
  have m1 : pmt xs ps k ≤ 100000 := by unfold pmt; omega
  have ht : tot (its xs ps (k + 1)) = tot (its xs ps k) - pmt xs ps k := by
    show tot (pay (byDay (its xs ps k)) (ps.getD k 0)) = _
    rw [tot_pay _ _ h0 (ok_one hb), tot_byDay]; rfl
  have hil : (its xs ps (k + 1)).length ≤ 30 := by
    show (pay (byDay (its xs ps k)) (ps.getD k 0)).length ≤ 30
    have h1 := pay_len (byDay (its xs ps k)) (ps.getD k 0)
    have h2 : (byDay (its xs ps k)).length = (its xs ps k).length := (isort_perm (its xs ps k)).length_eq
    have := h.il
    omega
  have hok : ∀ p ∈ its xs ps (k + 1), okP p := pay_ok h0 hb
  have hpc := payc_of (by have := h.il; omega) h.ok h0 (by omega)
  by_cases hz : pmt xs ps k = 0
  · have e : pab b0 xs ps (k + 1) = pab b0 xs ps k := by
      show (if pmt xs ps k = 0 then pab b0 xs ps k else _) = _
      rw [if_pos hz]
    exact ⟨⟨by rw [e]; exact h.led.mono fun j hj => by omega, by rw [e]; have := h.len; omega, by rw [e, h.a15, ht, hz]; omega, hok, hil⟩, m0, m1, hpc, l0, l1, fun hh => absurd hz hh⟩
  · obtain ⟨p1, p2, p3, p4⟩ := h.led.post (n := 100 + k) (by omega) (by omega) (d := 292193) (ls := paL (pmt xs ps k)) (two_linec c10 c15 (by decide) (by omega) (by omega) hz) (by omega) (by omega) (fun l hl => by
      rcases List.mem_cons.1 hl with rfl | hl
      · exact b10
      · rw [List.mem_singleton.1 hl]; exact b15) (by have := h.len; omega)
    have e : pab b0 xs ps (k + 1) = postb (pab b0 xs ps k) ⟨kyB (100 + k), 292193, paL (pmt xs ps k)⟩ := by
      show (if pmt xs ps k = 0 then pab b0 xs ps k else _) = _
      rw [if_neg hz]
    refine ⟨⟨by rw [e]; exact p2.mono fun j hj => by rcases hj with hj | rfl <;> omega, by rw [e, p4]; have := h.len; omega, ?_, hok, hil⟩, m0, m1, hpc, l0, l1, fun _ => p1⟩
    rw [e, p3, h.a15, ht]
    unfold paL
    rw [two_of (by omega) (by decide), if_neg (by omega), if_neg (by decide), if_pos rfl]
    omega

end Go.Proofs.Ytdpphneebikdpaa
