/- The walks of talref.Same, talref.SameBook (of the same), talkeep.plain, day. -/
import Derived.Test.YtdpphneebikdpaaPTopSeatsZ1
import Derived.Test.YtdpphneebikdpaaPTopSeatsZ2
import Derived.Test.YtdpphneebikdpaaPTopSeatsZ3
import Derived.Test.YtdpphneebikdpaaPTopSeatsZ4
import Derived.Test.YtdpphneebikdpaaPTopSeatsZ5
import Derived.Test.YtdpphneebikdpaaPTopSeatsZ6
import Derived.Test.YtdpphneebikdpaaPTopSeatsZ7
import Derived.Test.YtdpphneebikdpaaPTopSeatsZ8
import Derived.Test.YtdpphneebikdpaaPTopSeatsZ9
import Derived.Test.YtdpphneebikdpaaPTopSeatsZ10
import Derived.Test.YtdpphneebikdpaaPTopSeatsZ11
import Derived.Test.YtdpphneebikdpaaPTopSeatsZ12
import Derived.Test.YtdpphneebikdpaaPTopSeatsZ13
import Derived.Test.YtdpphneebikdpaaPTopSeatsZ14
import Derived.Test.YtdpphneebikdpaaPTopSeatsZ15
import Derived.Test.YtdpphneebikdpaaPTopSeatsZ16
import Derived.Test.YtdpphneebikdpaaPTopSeatsZ17
import Derived.Test.YtdpphneebikdpaaPTopSeatsZ18
import Derived.Test.YtdpphneebikdpaaPTopSeatsZ19
import Derived.Test.YtdpphneebikdpaaPTopSeatsZ20
import Derived.Test.YtdpphneebikdpaaPTopSeatsZ21
import Derived.Test.YtdpphneebikdpaaRows
import Derived.BigQuiet
import Derived.BigRegion
import Derived.Carry
import Derived.DataElems
import Derived.Deep.DeepCutAuto
import Derived.Deep.LoopGhost
import Derived.Deep.QuietTactic
import Derived.Deep.RegionHeld3
import Derived.Deep.RegionLaw
import Derived.Deep.RegionWith
import Derived.Deep.SlicePairs
import Derived.Deep.Slices
import Derived.Deep.Strs
import Derived.Handy
import Derived.Laws.AppendOwn
import Derived.Laws.CopyOwn
import Derived.Laws.CopyRow
import Derived.Laws.Cover1
import Derived.Laws.Externs
import Derived.Laws.NewBlocks
import Derived.Lib.AppendZerosOnto
import Derived.Lib.Bytealg
import Derived.Lib.Hide
import Derived.Lib.Overlaps
import Derived.Lib.SliceRun
import Derived.Lib.Walk
import Derived.Maps.Own
import Derived.Maps.OwnSet
import Derived.Maps.Views
import Derived.OpenShut
import Derived.Outline
import Derived.OwnWalk
import Derived.PlainAid
import Derived.ProofKit
import Derived.RegionTactic
import Derived.Shelf.Abstract
import Derived.Shelf.RegionOpenPlain
import Derived.Sort.Walk0
import Derived.StringKeys
import Derived.WalkKit
import Derived.WalkSpells
namespace Go.Proofs.Ytdpphneebikdpaa
open Go.ChangeShapes Go.WideShapes Go.ChangeAt Go.RowKit Go.PlainAid
set_option linter.unusedVariables false
set_option maxRecDepth 100000

abbrev s20 : ByteArray := { data := #[50, 48] }
abbrev s30 : ByteArray := { data := #[51, 48] }
abbrev s50 : ByteArray := { data := #[53, 48] }
end Go.Proofs.Ytdpphneebikdpaa

/- The walk of talkeep.bookBegun. -/
namespace Go.Proofs.Ytdpphneebikdpaa
open Go.ChangeShapes Go.WideShapes Go.ChangeAt Go.RowKit Go.PlainAid
set_option linter.unusedVariables false
set_option maxRecDepth 100000

/-- what Post answers, be it refused or not -/
theorem postYes_bq {w w' : World} {b : Bok} {e : Ending} (h : PostYes w b e w') : ∃ A n c X m k, e = .returned (.tuple #[bv A n c X m k b.shut, .int .i64 0]) ∧ Bq w' A n c X m k b ∧ OwnB w' w.heap.size (.slice A n c) (.slice X m k) n m b ∧ Mor w w' := by
  obtain ⟨A, n, c, X, m, k, he, ho, hm⟩ := h
  obtain ⟨A', c', X', k', e1, e2, hb⟩ := ho.bq
  injection e1 with e1 _ e3
  injection e2 with e4 _ e6
  subst e1 e3 e4 e6
  exact ⟨A, n, c, X, m, k, he, hb, ho, hm⟩
theorem lq_two {w : World} {g : Nat} {a b : ByteArray} {m n : Int} (h : Si w (some ⟨g, 0, none⟩) [(a, m), (b, n)]) (ha : a.size ≤ maxLen) (hb : b.size ≤ maxLen) : Lq w (some ⟨g, 0, none⟩) 2 2 [(a, m), (b, n)] :=
  ⟨h, rfl, Nat.le_refl _, by unfold maxLen; omega, (fun h => by cases h), fun i hi => by
    match i, hi with
    | 0, _ => exact ha
    | 1, _ => exact hb⟩
theorem two_max : (2 : Nat) ≤ maxLen := by unfold maxLen; omega
end Go.Proofs.Ytdpphneebikdpaa

/- taltop's plain book, its entries, and begun. -/
namespace Go.Proofs.Ytdpphneebikdpaa
open Go.ChangeShapes Go.WideShapes Go.ChangeAt Go.RowKit Go.PlainAid
set_option linter.unusedVariables false
set_option maxRecDepth 100000

abbrev t15 : ByteArray := { data := #[49, 53] }
/-- taltop's plain book -/
def topB : Bok := ⟨[(s10, 0), (t15, 0), (s20, 1), (s30, 2), (s40, 3), (s50, 4)], [], -1⟩
theorem top_str : ∀ i, i < 6 → (cd topB.ac i).size ≤ maxLen := by
  intro i hi
  have : (cd topB.ac i).size ≤ 2 := by
    match i, hi with
    | 0, _ => decide
    | 1, _ => decide
    | 2, _ => decide
    | 3, _ => decide
    | 4, _ => decide
    | 5, _ => decide
  unfold maxLen; omega
theorem topplain_any (w : World) :
    Calls Try.prog 17 #[] w fun e w' => ∃ g, e = .returned (bv (some ⟨g, 0, none⟩) 6 6 none 0 0 (-1)) ∧ Bq w' (some ⟨g, 0, none⟩) 6 6 none 0 0 topB ∧ Mor w w' := by
  go_enter Try.func17, Try.ntmps17
  go_wp2_with fail
  go_returns
  refine ⟨w.heap.size + 1, rfl, ⟨⟨Si.of_rd (Rd.new (flat pc topB.ac) (sz1 _ _) ?_), rfl, Nat.le_refl _, by unfold maxLen; omega, (fun h => by cases h), top_str⟩, .inl rfl, rfl, Nat.le_refl _, by unfold maxLen; omega, fun _ => rfl⟩, (Mor.refl _).alloc.alloc⟩
  simp [flat, pc, topB]

/-- a digit -/
def dg (n : Nat) : ByteArray := ⟨#[UInt8.ofNat (48 + n)]⟩
theorem dg_ext (n : Nat) (h : n < 10) : (⟨#[48, 49, 50, 51, 52, 53, 54, 55, 56, 57]⟩ : ByteArray).extract n (n + 1) = dg n := by
  have : ∀ n : Fin 10, (⟨#[48, 49, 50, 51, 52, 53, 54, 55, 56, 57]⟩ : ByteArray).extract n.1 (n.1 + 1) = dg n.1 := by decide +kernel
  exact this ⟨n, h⟩
/-- a number's text, below a thousand -/
def decB (n : Nat) : ByteArray := if n < 10 then dg n else if n < 100 then dg (n / 10) ++ dg (n % 10) else dg (n / 10 / 10) ++ dg (n / 10 % 10) ++ dg (n % 10)
theorem dec1 (n : Nat) (w : World) (h : n < 10) :
    Calls Try.prog 68 #[.int .i64 n] w fun e w' => e = .returned (.string (dg n)) ∧ w = w' := by
  have hx := dg_ext n h
  have h1 : (n : Int) < 10 := by omega
  have h0 : (0 : Int) ≤ (n : Int) := by omega
  go_enter Try.func68, Try.ntmps68
  go_wp2_with fail
  go_ret
  exact ⟨rfl, rfl⟩
theorem dec2 (n : Nat) (w : World) (h : n < 100) :
    Calls Try.prog 68 #[.int .i64 n] w fun e w' => e = .returned (.string (if n < 10 then dg n else dg (n / 10) ++ dg (n % 10))) ∧ w = w' := by
  by_cases h10 : n < 10
  · rw [if_pos h10]; exact dec1 n w h10
  · rw [if_neg h10]
    obtain ⟨a, ha⟩ : ∃ a, n / 10 = a := ⟨_, rfl⟩
    obtain ⟨b, hb⟩ : ∃ b, n % 10 = b := ⟨_, rfl⟩
    have ea : Int.tdiv (n : Int) 10 = (a : Int) := by rw [Int.tdiv_eq_ediv_of_nonneg (by omega)]; omega
    have eb : Int.tmod (n : Int) 10 = (b : Int) := by rw [Int.tmod_eq_emod_of_nonneg (by omega)]; omega
    have ea' : (n : Int) / 10 = (a : Int) := by omega
    have eb' : (n : Int) % 10 = (b : Int) := by omega
    have HA := Lib.hid (fun w => dec1 a w (by omega))
    have HB := Lib.hid (fun w => dec1 b w (by omega))
    have h1 : ¬ (n : Int) < 10 := by omega
    have h0 : (0 : Int) ≤ (n : Int) := by omega
    rw [ha, hb]
    clear ha hb
    go_enter Try.func68, Try.ntmps68
    go_wp2_with (first | (go_at_call 68; (with_reducible refine (HA.out _).mono ?_); rintro e w1 ⟨rfl, rfl⟩) | (go_at_call 68; (with_reducible refine (HB.out _).mono ?_); rintro e w1 ⟨rfl, rfl⟩))
    go_ret
    exact ⟨rfl, rfl⟩
theorem dec3 (n : Nat) (w : World) (h : n < 1000) :
    Calls Try.prog 68 #[.int .i64 n] w fun e w' => e = .returned (.string (decB n)) ∧ w = w' := by
  by_cases h100 : n < 100
  · have e : decB n = if n < 10 then dg n else dg (n / 10) ++ dg (n % 10) := by
      unfold decB
      split
      · rfl
      · rfl
    rw [e]; exact dec2 n w h100
  · have e : decB n = (dg (n / 10 / 10) ++ dg (n / 10 % 10)) ++ dg (n % 10) := by
      unfold decB; rw [if_neg (by omega), if_neg h100]
    rw [e]
    obtain ⟨a, ha⟩ : ∃ a, n / 10 = a := ⟨_, rfl⟩
    obtain ⟨b, hb⟩ : ∃ b, n % 10 = b := ⟨_, rfl⟩
    have ea : Int.tdiv (n : Int) 10 = (a : Int) := by rw [Int.tdiv_eq_ediv_of_nonneg (by omega)]; omega
    have eb : Int.tmod (n : Int) 10 = (b : Int) := by rw [Int.tmod_eq_emod_of_nonneg (by omega)]; omega
    have ea' : (n : Int) / 10 = (a : Int) := by omega
    have eb' : (n : Int) % 10 = (b : Int) := by omega
    have HA := Lib.hid (fun w => dec2 a w (by omega))
    have HB := Lib.hid (fun w => dec1 b w (by omega))
    rw [if_neg (by omega)] at HA
    have h1 : ¬ (n : Int) < 10 := by omega
    have h0 : (0 : Int) ≤ (n : Int) := by omega
    rw [ha, hb]
    have hz1 : (dg (a / 10) ++ dg (a % 10)).size = 2 := rfl
    clear ha hb
    generalize dg (a / 10) ++ dg (a % 10) = s1 at *
    go_enter Try.func68, Try.ntmps68
    go_wp2_with (first | (go_at_call 68; (with_reducible refine (HA.out _).mono ?_); rintro e w1 ⟨rfl, rfl⟩) | (go_at_call 68; (with_reducible refine (HB.out _).mono ?_); rintro e w1 ⟨rfl, rfl⟩))
    go_ret
    exact ⟨rfl, rfl⟩

/-- the key of a number -/
def kyB (n : Nat) : ByteArray := { data := #[107] } ++ decB n
theorem decB_size (n : Nat) : 1 ≤ (decB n).size ∧ (decB n).size ≤ 3 := by
  unfold decB
  split
  · exact ⟨by show (1 : Nat) ≤ 1; omega, by show (1 : Nat) ≤ 3; omega⟩
  · split
    · exact ⟨by show (1 : Nat) ≤ 2; omega, by show (2 : Nat) ≤ 3; omega⟩
    · exact ⟨by show (1 : Nat) ≤ 3; omega, by show (3 : Nat) ≤ 3; omega⟩
theorem kyB_size (n : Nat) : (kyB n).size ≤ 4 := by
  have := decB_size n
  have e : (kyB n).size = 1 + (decB n).size := by unfold kyB; rw [ByteArray.size_append]; rfl
  omega
theorem kyB_max (n : Nat) : (kyB n).size ≤ maxLen := by have := kyB_size n; unfold maxLen; omega
theorem topkey_any (n : Nat) (w : World) (h : n < 1000) :
    Calls Try.prog 36 #[.int .i64 n] w fun e w' => e = .returned (.string (kyB n)) ∧ w = w' := by
  have HD := Lib.hid (fun w => dec3 n w h)
  have hz := decB_size n
  have hk : kyB n = { data := #[107] } ++ decB n := rfl
  rw [hk]
  generalize decB n = s at *
  clear hk
  go_enter Try.func36, Try.ntmps36
  go_wp2_with (go_at_call 68; (with_reducible refine (HD.out _).mono ?_); rintro e w1 ⟨rfl, rfl⟩)
  go_ret
  exact ⟨rfl, rfl⟩
theorem newAtT {w : World} {g : Nat} {t : TypeId} {cs : Array Value} (h : g = w.heap.size) : Bk (w.alloc (.cells cs t)) g t cs := by subst h; exact Bk.new w t cs
theorem moved_any (n : Nat) (at' amount : Int) (tc fr : ByteArray) (w : World) (h : n < 1000) (h1 : -9000000000000000 ≤ amount) (h2 : amount ≤ 9000000000000000) :
    Calls Try.prog 18 #[.int .i64 n, .int .i64 at', .int .i64 amount, .string tc, .string fr] w fun e w' => ∃ g, e = .returned (.agg #[.string (kyB n), .int .i64 at', .slice (some ⟨g, 0, none⟩) 2 2]) ∧ Bk w' g 50 (flat pc [(tc, amount), (fr, -amount)]).toArray ∧ w.heap.size ≤ g ∧ Mor w w' := by
  have HK := Lib.hid (fun w => topkey_any n w h)
  generalize kyB n = ky at *
  go_enter Try.func18, Try.ntmps18
  go_wp2_with (go_at_call 36; (with_reducible refine (HK.out _).mono ?_); rintro e w1 ⟨rfl, rfl⟩)
  go_returns
  exact ⟨w.heap.size + 1, rfl, newAtT (sz1 _ _), Nat.le_succ _, (Mor.refl _).alloc.alloc⟩
theorem bk_two {w : World} {g : Nat} {a b : ByteArray} {m n : Int} (h : Bk w g 50 (flat pc [(a, m), (b, n)]).toArray) (ha : a.size ≤ maxLen) (hb : b.size ≤ maxLen) : Lq w (some ⟨g, 0, none⟩) 2 2 [(a, m), (b, n)] := by
  refine lq_two (.inr ⟨_, rfl, h.lt, fun i hi => ?_⟩) ha hb
  rw [adds]
  have hc := fun j => h.cell j
  match i, hi with
  | 0, _ => exact ⟨hc 0, hc 1⟩
  | 1, _ => exact ⟨hc 2, hc 3⟩

theorem top_post : postc topB ⟨kyB 1, 5, [(s10, 7), (s40, -7)]⟩ = 0 := by decide +kernel
theorem top_bal : balv (postb topB ⟨kyB 1, 5, [(s10, 7), (s40, -7)]⟩) s10 5 = 7 ∧ balc (postb topB ⟨kyB 1, 5, [(s10, 7), (s40, -7)]⟩) s10 5 = 0 ∧ (postb topB ⟨kyB 1, 5, [(s10, 7), (s40, -7)]⟩).en.length = 1 := by decide +kernel

set_option maxHeartbeats 3200000 in
theorem topbegun_any (w : World) : Calls Try.prog 15 #[] w fun e w' => e = .returned (.bool true) ∧ Mor w w' := by
  obtain ⟨pb1, pb2, pb3⟩ := top_bal
  have HPb := Lib.hid (And.intro pb1 (And.intro pb2 pb3))
  have HPc := Lib.hid top_post
  have HMv := Lib.hid (fun w => moved_any 1 5 7 s10 s40 w (by omega) (by omega) (by omega))
  have hk1 : (kyB 1).size ≤ maxLen := kyB_max 1
  clear pb1 pb2 pb3
  generalize kyB 1 = ky at *
  go_enter Try.func15, Try.ntmps15
  go_wp2_with fail
  refine (topplain_any _).mono ?_
  rintro e w1 ⟨g, rfl, hq, hm⟩
  have HQ := Lib.hid hq
  have HM1 := Lib.hid hm
  clear hq hm
  go_wp2_with fail
  refine (HMv.out _).mono ?_
  rintro e w2 ⟨g2, rfl, hs, -, hm⟩
  have HQ2 := Lib.hid (HQ.out.mor hm)
  have HS := Lib.hid (bk_two hs two_max two_max)
  have HM2 := Lib.hid (HM1.out.trans' hm)
  clear hs hm HQ HM1
  go_wp2_with fail
  refine (post_yes _ _ _ _ _ _ topB ⟨ky, 5, [(s10, 7), (s40, -7)]⟩ _ _ _ _ HQ2.out HS.out hk1 HPc.out).mono ?_
  intro e w3 h3
  obtain ⟨A, n, c, X, m, k, rfl, hq, ho, hm⟩ := postYes_bq h3
  have hm1 : m = 1 := by rw [← hq.length]; exact HPb.out.2.2
  subst hm1
  have HQ3 := Lib.hid hq
  have HM3 := Lib.hid (HM2.out.trans' hm)
  clear hq hm ho h3 HQ2 HS HM2
  have HBa := Lib.hid (fun w' (h : Mor w3 w') => bal_any A n c X 1 k _ s10 5 w' (HQ3.out.mor h))
  rw [HPb.out.1, HPb.out.2.1] at HBa
  go_wp2_with fail
  refine (HBa.out _ (Mor.refl _).alloc).mono ?_
  rintro e w4 ⟨rfl, hm⟩
  have HM4 := Lib.hid (HM3.out.trans' ((Mor.refl w3).alloc.trans' hm))
  clear hm HBa
  go_wp2_with fail
  go_ret
  exact ⟨rfl, HM4.out⟩

end Go.Proofs.Ytdpphneebikdpaa
