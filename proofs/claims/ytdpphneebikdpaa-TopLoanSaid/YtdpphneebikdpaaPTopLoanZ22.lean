/- The walks of talref.Same, talref.SameBook (of the same), talkeep.plain, day. -/
import Derived.Test.YtdpphneebikdpaaPTopLoanZ1
import Derived.Test.YtdpphneebikdpaaPTopLoanZ2
import Derived.Test.YtdpphneebikdpaaPTopLoanZ3
import Derived.Test.YtdpphneebikdpaaPTopLoanZ4
import Derived.Test.YtdpphneebikdpaaPTopLoanZ5
import Derived.Test.YtdpphneebikdpaaPTopLoanZ6
import Derived.Test.YtdpphneebikdpaaPTopLoanZ7
import Derived.Test.YtdpphneebikdpaaPTopLoanZ8
import Derived.Test.YtdpphneebikdpaaPTopLoanZ9
import Derived.Test.YtdpphneebikdpaaPTopLoanZ10
import Derived.Test.YtdpphneebikdpaaPTopLoanZ11
import Derived.Test.YtdpphneebikdpaaPTopLoanZ12
import Derived.Test.YtdpphneebikdpaaPTopLoanZ13
import Derived.Test.YtdpphneebikdpaaPTopLoanZ14
import Derived.Test.YtdpphneebikdpaaPTopLoanZ15
import Derived.Test.YtdpphneebikdpaaPTopLoanZ16
import Derived.Test.YtdpphneebikdpaaPTopLoanZ17
import Derived.Test.YtdpphneebikdpaaPTopLoanZ18
import Derived.Test.YtdpphneebikdpaaPTopLoanZ19
import Derived.Test.YtdpphneebikdpaaPTopLoanZ20
import Derived.Test.YtdpphneebikdpaaPTopLoanZ21
import Derived.Test.YtdpphneebikdpaaRows
import Derived.BigQuiet
import Derived.BigRegion
import Derived.Carry
import Derived.DataElems
import Derived.Deep.DeepCutAuto
import Derived.Deep.LoopGhost
import Derived.Deep.QuietTactic
import Derived.Deep.RegionHeld3
import Derived.Deep.RegionLaw
import Derived.Deep.RegionWith
import Derived.Deep.SlicePairs
import Derived.Deep.Slices
import Derived.Deep.Strs
import Derived.Handy
import Derived.Laws.AppendOwn
import Derived.Laws.CopyOwn
import Derived.Laws.CopyRow
import Derived.Laws.Cover1
import Derived.Laws.Externs
import Derived.Laws.NewBlocks
import Derived.Lib.AppendZerosOnto
import Derived.Lib.Bytealg
import Derived.Lib.Hide
import Derived.Lib.Overlaps
import Derived.Lib.SliceRun
import Derived.Lib.Walk
import Derived.Maps.Own
import Derived.Maps.OwnSet
import Derived.Maps.Views
import Derived.OpenShut
import Derived.Outline
import Derived.OwnWalk
import Derived.PlainAid
import Derived.ProofKit
import Derived.RegionTactic
import Derived.Shelf.Abstract
import Derived.Shelf.RegionOpenPlain
import Derived.Sort.Walk0
import Derived.StringKeys
import Derived.WalkKit
import Derived.WalkSpells
namespace Go.Proofs.Ytdpphneebikdpaa
open Go.ChangeShapes Go.WideShapes Go.ChangeAt Go.RowKit Go.PlainAid
set_option linter.unusedVariables false
set_option maxRecDepth 100000

abbrev s20 : ByteArray := { data := #[50, 48] }
abbrev s30 : ByteArray := { data := #[51, 48] }
abbrev s50 : ByteArray := { data := #[53, 48] }
end Go.Proofs.Ytdpphneebikdpaa

/- The walk of talkeep.bookBegun. -/
namespace Go.Proofs.Ytdpphneebikdpaa
open Go.ChangeShapes Go.WideShapes Go.ChangeAt Go.RowKit Go.PlainAid
set_option linter.unusedVariables false
set_option maxRecDepth 100000

/-- what Post answers, be it refused or not -/
theorem postYes_bq {w w' : World} {b : Bok} {e : Ending} (h : PostYes w b e w') : ∃ A n c X m k, e = .returned (.tuple #[bv A n c X m k b.shut, .int .i64 0]) ∧ Bq w' A n c X m k b ∧ OwnB w' w.heap.size (.slice A n c) (.slice X m k) n m b ∧ Mor w w' := by
  obtain ⟨A, n, c, X, m, k, he, ho, hm⟩ := h
  obtain ⟨A', c', X', k', e1, e2, hb⟩ := ho.bq
  injection e1 with e1 _ e3
  injection e2 with e4 _ e6
  subst e1 e3 e4 e6
  exact ⟨A, n, c, X, m, k, he, hb, ho, hm⟩
theorem lq_two {w : World} {g : Nat} {a b : ByteArray} {m n : Int} (h : Si w (some ⟨g, 0, none⟩) [(a, m), (b, n)]) (ha : a.size ≤ maxLen) (hb : b.size ≤ maxLen) : Lq w (some ⟨g, 0, none⟩) 2 2 [(a, m), (b, n)] :=
  ⟨h, rfl, Nat.le_refl _, by unfold maxLen; omega, (fun h => by cases h), fun i hi => by
    match i, hi with
    | 0, _ => exact ha
    | 1, _ => exact hb⟩
theorem two_max : (2 : Nat) ≤ maxLen := by unfold maxLen; omega
/-- a book's variable -/
theorem bk_book (w : World) (A : Option Addr) (n c : Nat) (X : Option Addr) (m k : Nat) (s : Int) {w' : World} (h : Mor (w.alloc (.cells #[.slice A n c, .slice X m k, .int .i64 s] 41)) w') :
    w'.cell? ⟨w.heap.size, 0, none⟩ = some (.slice A n c) ∧ w'.cell? ⟨w.heap.size, 1, none⟩ = some (.slice X m k) ∧ w'.cell? ⟨w.heap.size, 2, none⟩ = some (.int .i64 s) ∧ w.heap.size < w'.heap.size := by
  have hb := (Bk.new w 41 #[.slice A n c, .slice X m k, .int .i64 s]).mor h
  exact ⟨by rw [hb.cell]; rfl, by rw [hb.cell]; rfl, by rw [hb.cell]; rfl, hb.lt⟩

end Go.Proofs.Ytdpphneebikdpaa

/- taltop's plain book, its entries, and begun. -/
namespace Go.Proofs.Ytdpphneebikdpaa
open Go.ChangeShapes Go.WideShapes Go.ChangeAt Go.RowKit Go.PlainAid
set_option linter.unusedVariables false
set_option maxRecDepth 100000

abbrev t15 : ByteArray := { data := #[49, 53] }
/-- taltop's plain book -/
def topB : Bok := ⟨[(s10, 0), (t15, 0), (s20, 1), (s30, 2), (s40, 3), (s50, 4)], [], -1⟩
theorem top_str : ∀ i, i < 6 → (cd topB.ac i).size ≤ maxLen := by
  intro i hi
  have : (cd topB.ac i).size ≤ 2 := by
    match i, hi with
    | 0, _ => decide
    | 1, _ => decide
    | 2, _ => decide
    | 3, _ => decide
    | 4, _ => decide
    | 5, _ => decide
  unfold maxLen; omega
theorem topplain_any (w : World) :
    Calls Try.prog 17 #[] w fun e w' => ∃ g, e = .returned (bv (some ⟨g, 0, none⟩) 6 6 none 0 0 (-1)) ∧ Bq w' (some ⟨g, 0, none⟩) 6 6 none 0 0 topB ∧ Mor w w' := by
  go_enter Try.func17, Try.ntmps17
  go_wp2_with fail
  go_returns
  refine ⟨w.heap.size + 1, rfl, ⟨⟨Si.of_rd (Rd.new (flat pc topB.ac) (sz1 _ _) ?_), rfl, Nat.le_refl _, by unfold maxLen; omega, (fun h => by cases h), top_str⟩, .inl rfl, rfl, Nat.le_refl _, by unfold maxLen; omega, fun _ => rfl⟩, (Mor.refl _).alloc.alloc⟩
  simp [flat, pc, topB]

/-- a digit -/
def dg (n : Nat) : ByteArray := ⟨#[UInt8.ofNat (48 + n)]⟩
theorem dg_ext (n : Nat) (h : n < 10) : (⟨#[48, 49, 50, 51, 52, 53, 54, 55, 56, 57]⟩ : ByteArray).extract n (n + 1) = dg n := by
  have : ∀ n : Fin 10, (⟨#[48, 49, 50, 51, 52, 53, 54, 55, 56, 57]⟩ : ByteArray).extract n.1 (n.1 + 1) = dg n.1 := by decide +kernel
  exact this ⟨n, h⟩
/-- a number's text, below a thousand -/
def decB (n : Nat) : ByteArray := if n < 10 then dg n else if n < 100 then dg (n / 10) ++ dg (n % 10) else dg (n / 10 / 10) ++ dg (n / 10 % 10) ++ dg (n % 10)
theorem dec1 (n : Nat) (w : World) (h : n < 10) :
    Calls Try.prog 68 #[.int .i64 n] w fun e w' => e = .returned (.string (dg n)) ∧ w = w' := by
  have hx := dg_ext n h
  have h1 : (n : Int) < 10 := by omega
  have h0 : (0 : Int) ≤ (n : Int) := by omega
  go_enter Try.func68, Try.ntmps68
  go_wp2_with fail
  go_ret
  exact ⟨rfl, rfl⟩
theorem dec2 (n : Nat) (w : World) (h : n < 100) :
    Calls Try.prog 68 #[.int .i64 n] w fun e w' => e = .returned (.string (if n < 10 then dg n else dg (n / 10) ++ dg (n % 10))) ∧ w = w' := by
  by_cases h10 : n < 10
  · rw [if_pos h10]; exact dec1 n w h10
  · rw [if_neg h10]
    obtain ⟨a, ha⟩ : ∃ a, n / 10 = a := ⟨_, rfl⟩
    obtain ⟨b, hb⟩ : ∃ b, n % 10 = b := ⟨_, rfl⟩
    have ea : Int.tdiv (n : Int) 10 = (a : Int) := by rw [Int.tdiv_eq_ediv_of_nonneg (by omega)]; omega
    have eb : Int.tmod (n : Int) 10 = (b : Int) := by rw [Int.tmod_eq_emod_of_nonneg (by omega)]; omega
    have ea' : (n : Int) / 10 = (a : Int) := by omega
    have eb' : (n : Int) % 10 = (b : Int) := by omega
    have HA := Lib.hid (fun w => dec1 a w (by omega))
    have HB := Lib.hid (fun w => dec1 b w (by omega))
    have h1 : ¬ (n : Int) < 10 := by omega
    have h0 : (0 : Int) ≤ (n : Int) := by omega
    rw [ha, hb]
    clear ha hb
    go_enter Try.func68, Try.ntmps68
    go_wp2_with (first | (go_at_call 68; (with_reducible refine (HA.out _).mono ?_); rintro e w1 ⟨rfl, rfl⟩) | (go_at_call 68; (with_reducible refine (HB.out _).mono ?_); rintro e w1 ⟨rfl, rfl⟩))
    go_ret
    exact ⟨rfl, rfl⟩
theorem dec3 (n : Nat) (w : World) (h : n < 1000) :
    Calls Try.prog 68 #[.int .i64 n] w fun e w' => e = .returned (.string (decB n)) ∧ w = w' := by
  by_cases h100 : n < 100
  · have e : decB n = if n < 10 then dg n else dg (n / 10) ++ dg (n % 10) := by
      unfold decB
      split
      · rfl
      · rfl
    rw [e]; exact dec2 n w h100
  · have e : decB n = (dg (n / 10 / 10) ++ dg (n / 10 % 10)) ++ dg (n % 10) := by
      unfold decB; rw [if_neg (by omega), if_neg h100]
    rw [e]
    obtain ⟨a, ha⟩ : ∃ a, n / 10 = a := ⟨_, rfl⟩
    obtain ⟨b, hb⟩ : ∃ b, n % 10 = b := ⟨_, rfl⟩
    have ea : Int.tdiv (n : Int) 10 = (a : Int) := by rw [Int.tdiv_eq_ediv_of_nonneg (by omega)]; omega
    have eb : Int.tmod (n : Int) 10 = (b : Int) := by rw [Int.tmod_eq_emod_of_nonneg (by omega)]; omega
    have ea' : (n : Int) / 10 = (a : Int) := by omega
    have eb' : (n : Int) % 10 = (b : Int) := by omega
    have HA := Lib.hid (fun w => dec2 a w (by omega))
    have HB := Lib.hid (fun w => dec1 b w (by omega))
    rw [if_neg (by omega)] at HA
    have h1 : ¬ (n : Int) < 10 := by omega
    have h0 : (0 : Int) ≤ (n : Int) := by omega
    rw [ha, hb]
    have hz1 : (dg (a / 10) ++ dg (a % 10)).size = 2 := rfl
    clear ha hb
    generalize dg (a / 10) ++ dg (a % 10) = s1 at *
    go_enter Try.func68, Try.ntmps68
    go_wp2_with (first | (go_at_call 68; (with_reducible refine (HA.out _).mono ?_); rintro e w1 ⟨rfl, rfl⟩) | (go_at_call 68; (with_reducible refine (HB.out _).mono ?_); rintro e w1 ⟨rfl, rfl⟩))
    go_ret
    exact ⟨rfl, rfl⟩

/-- the key of a number -/
def kyB (n : Nat) : ByteArray := { data := #[107] } ++ decB n
theorem decB_size (n : Nat) : 1 ≤ (decB n).size ∧ (decB n).size ≤ 3 := by
  unfold decB
  split
  · exact ⟨by show (1 : Nat) ≤ 1; omega, by show (1 : Nat) ≤ 3; omega⟩
  · split
    · exact ⟨by show (1 : Nat) ≤ 2; omega, by show (2 : Nat) ≤ 3; omega⟩
    · exact ⟨by show (1 : Nat) ≤ 3; omega, by show (3 : Nat) ≤ 3; omega⟩
theorem kyB_size (n : Nat) : (kyB n).size ≤ 4 := by
  have := decB_size n
  have e : (kyB n).size = 1 + (decB n).size := by unfold kyB; rw [ByteArray.size_append]; rfl
  omega
theorem kyB_max (n : Nat) : (kyB n).size ≤ maxLen := by have := kyB_size n; unfold maxLen; omega
theorem topkey_any (n : Nat) (w : World) (h : n < 1000) :
    Calls Try.prog 36 #[.int .i64 n] w fun e w' => e = .returned (.string (kyB n)) ∧ w = w' := by
  have HD := Lib.hid (fun w => dec3 n w h)
  have hz := decB_size n
  have hk : kyB n = { data := #[107] } ++ decB n := rfl
  rw [hk]
  generalize decB n = s at *
  clear hk
  go_enter Try.func36, Try.ntmps36
  go_wp2_with (go_at_call 68; (with_reducible refine (HD.out _).mono ?_); rintro e w1 ⟨rfl, rfl⟩)
  go_ret
  exact ⟨rfl, rfl⟩
theorem newAtT {w : World} {g : Nat} {t : TypeId} {cs : Array Value} (h : g = w.heap.size) : Bk (w.alloc (.cells cs t)) g t cs := by subst h; exact Bk.new w t cs
theorem moved_any (n : Nat) (at' amount : Int) (tc fr : ByteArray) (w : World) (h : n < 1000) (h1 : -9000000000000000 ≤ amount) (h2 : amount ≤ 9000000000000000) :
    Calls Try.prog 18 #[.int .i64 n, .int .i64 at', .int .i64 amount, .string tc, .string fr] w fun e w' => ∃ g, e = .returned (.agg #[.string (kyB n), .int .i64 at', .slice (some ⟨g, 0, none⟩) 2 2]) ∧ Bk w' g 50 (flat pc [(tc, amount), (fr, -amount)]).toArray ∧ w.heap.size ≤ g ∧ Mor w w' := by
  have HK := Lib.hid (fun w => topkey_any n w h)
  generalize kyB n = ky at *
  go_enter Try.func18, Try.ntmps18
  go_wp2_with (go_at_call 36; (with_reducible refine (HK.out _).mono ?_); rintro e w1 ⟨rfl, rfl⟩)
  go_returns
  exact ⟨w.heap.size + 1, rfl, newAtT (sz1 _ _), Nat.le_succ _, (Mor.refl _).alloc.alloc⟩
theorem bk_two {w : World} {g : Nat} {a b : ByteArray} {m n : Int} (h : Bk w g 50 (flat pc [(a, m), (b, n)]).toArray) (ha : a.size ≤ maxLen) (hb : b.size ≤ maxLen) : Lq w (some ⟨g, 0, none⟩) 2 2 [(a, m), (b, n)] := by
  refine lq_two (.inr ⟨_, rfl, h.lt, fun i hi => ?_⟩) ha hb
  rw [adds]
  have hc := fun j => h.cell j
  match i, hi with
  | 0, _ => exact ⟨hc 0, hc 1⟩
  | 1, _ => exact ⟨hc 2, hc 3⟩

theorem top_post : postc topB ⟨kyB 1, 5, [(s10, 7), (s40, -7)]⟩ = 0 := by decide +kernel
theorem top_bal : balv (postb topB ⟨kyB 1, 5, [(s10, 7), (s40, -7)]⟩) s10 5 = 7 ∧ balc (postb topB ⟨kyB 1, 5, [(s10, 7), (s40, -7)]⟩) s10 5 = 0 ∧ (postb topB ⟨kyB 1, 5, [(s10, 7), (s40, -7)]⟩).en.length = 1 := by decide +kernel

set_option maxHeartbeats 3200000 in
theorem topbegun_any (w : World) : Calls Try.prog 15 #[] w fun e w' => e = .returned (.bool true) ∧ Mor w w' := by
  obtain ⟨pb1, pb2, pb3⟩ := top_bal
  have HPb := Lib.hid (And.intro pb1 (And.intro pb2 pb3))
  have HPc := Lib.hid top_post
  have HMv := Lib.hid (fun w => moved_any 1 5 7 s10 s40 w (by omega) (by omega) (by omega))
  have hk1 : (kyB 1).size ≤ maxLen := kyB_max 1
  clear pb1 pb2 pb3
  generalize kyB 1 = ky at *
  go_enter Try.func15, Try.ntmps15
  go_wp2_with fail
  refine (topplain_any _).mono ?_
  rintro e w1 ⟨g, rfl, hq, hm⟩
  have HQ := Lib.hid hq
  have HM1 := Lib.hid hm
  clear hq hm
  go_wp2_with fail
  refine (HMv.out _).mono ?_
  rintro e w2 ⟨g2, rfl, hs, -, hm⟩
  have HQ2 := Lib.hid (HQ.out.mor hm)
  have HS := Lib.hid (bk_two hs two_max two_max)
  have HM2 := Lib.hid (HM1.out.trans' hm)
  clear hs hm HQ HM1
  go_wp2_with fail
  refine (post_yes _ _ _ _ _ _ topB ⟨ky, 5, [(s10, 7), (s40, -7)]⟩ _ _ _ _ HQ2.out HS.out hk1 HPc.out).mono ?_
  intro e w3 h3
  obtain ⟨A, n, c, X, m, k, rfl, hq, ho, hm⟩ := postYes_bq h3
  have hm1 : m = 1 := by rw [← hq.length]; exact HPb.out.2.2
  subst hm1
  have HQ3 := Lib.hid hq
  have HM3 := Lib.hid (HM2.out.trans' hm)
  clear hq hm ho h3 HQ2 HS HM2
  have HBa := Lib.hid (fun w' (h : Mor w3 w') => bal_any A n c X 1 k _ s10 5 w' (HQ3.out.mor h))
  rw [HPb.out.1, HPb.out.2.1] at HBa
  go_wp2_with fail
  refine (HBa.out _ (Mor.refl _).alloc).mono ?_
  rintro e w4 ⟨rfl, hm⟩
  have HM4 := Lib.hid (HM3.out.trans' ((Mor.refl w3).alloc.trans' hm))
  clear hm HBa
  go_wp2_with fail
  go_ret
  exact ⟨rfl, HM4.out⟩

end Go.Proofs.Ytdpphneebikdpaa

/- ContainsFunc at entries; what balances say, plainly. -/
namespace Go.Proofs.Ytdpphneebikdpaa
open Go.ChangeShapes Go.WideShapes Go.ChangeAt Go.RowKit Go.PlainAid
set_option linter.unusedVariables false
set_option maxRecDepth 100000

theorem balc_zero {b : Bok} {s : ByteArray} {d : Int} (h : balc b s d = 0) : BOk b ∧ hasB b.ac s = true ∧ 0 ≤ d ∧ d ≤ 292193 ∧ balv b s d = ofS b.en s 0 d := by
  have h0 := h
  unfold balc at h
  by_cases h1 : bookc b = 0
  · rw [if_neg (by simp [h1])] at h
    by_cases h2 : hasB b.ac s = false
    · rw [if_pos h2] at h; omega
    · rw [if_neg h2] at h
      by_cases h3 : d < 0 ∨ 292193 < d
      · rw [if_pos h3] at h; omega
      · exact ⟨(bookc_iff b).1 h1, by simpa using h2, by omega, by omega, by unfold balv; rw [h0]; rfl⟩
  · rw [if_pos h1] at h; exact absurd h h1
theorem balc_of {b : Bok} {s : ByteArray} {d : Int} (h1 : BOk b) (h2 : hasB b.ac s = true) (h3 : 0 ≤ d) (h4 : d ≤ 292193) : balc b s d = 0 := by
  unfold balc
  rw [if_neg (by simp [(bookc_iff b).2 h1]), if_neg (by simp [h2]), if_neg (by omega)]
theorem post_ac (b : Bok) (x : En) : (postb b x).ac = b.ac ∧ (postb b x).shut = b.shut := by
  unfold postb; split <;> exact ⟨rfl, rfl⟩
/-- what an entry adds -/
theorem post_of {b : Bok} {x : En} (h : postc b x = 0) (s : ByteArray) (f t : Int) : ofS (postb b x).en s f t = ofS b.en s f t + if 0 ≤ findE b.en x.key then 0 else enOf s f t x := by
  by_cases hf : 0 ≤ findE b.en x.key
  · rw [if_pos hf, (post_old h hf).2.2.2, Int.add_zero]
  · rw [if_neg hf, (post_new h hf).2.2.2.2.2.2]
    exact ofS_ins x b.en s f t
theorem post_len {b : Bok} {x : En} (h : postc b x = 0) : (postb b x).en.length = b.en.length + if 0 ≤ findE b.en x.key then 0 else 1 := by
  by_cases hf : 0 ≤ findE b.en x.key
  · rw [if_pos hf, (post_old h hf).2.2.2]; rfl
  · rw [if_neg hf, (post_new h hf).2.2.2.2.2.2]
    exact ins_len x b.en

end Go.Proofs.Ytdpphneebikdpaa

/- Plain laws of taltop's books: entries with keys of their own, posted in whatever order. -/
namespace Go.Proofs.Ytdpphneebikdpaa
open Go.ChangeShapes Go.WideShapes Go.ChangeAt Go.RowKit Go.PlainAid
set_option linter.unusedVariables false
set_option maxRecDepth 100000

/-- the number that a key stands for -/
def kyV (s : ByteArray) : Nat := (s.data.toList.drop 1).foldl (fun a c => a * 10 + (c.toNat - 48)) 0
theorem kyV_of : ∀ n : Fin 200, kyV (kyB n.1) = n.1 := by decide +kernel
theorem kyB_ok : ∀ n : Fin 200, keyB (kyB n.1) = true := by decide +kernel
theorem kyB_inj {m n : Nat} (hm : m < 200) (hn : n < 200) (h : kyB m = kyB n) : m = n := by
  have a := kyV_of ⟨m, hm⟩
  have b := kyV_of ⟨n, hn⟩
  simp only at a b
  rw [← a, ← b, h]
theorem two_linec {a b : ByteArray} {v : Int} (ha : codeB a = true) (hb : codeB b = true) (hab : a ≠ b) (h1 : -1000000000000 ≤ v) (h2 : v ≤ 1000000000000) (h3 : v ≠ 0) : linec [(a, v), (b, -v)] = 0 := by
  rw [linec_iff]
  refine ⟨by simp, by simp, by simp; omega, fun x hx => ?_, by simpa using hab⟩
  rcases List.mem_cons.1 hx with rfl | hx
  · exact ⟨ha, h1, h2, h3⟩
  · rcases List.mem_cons.1 hx with rfl | hx
    · exact ⟨hb, by simp only; omega, by simp only; omega, by simp only; omega⟩
    · cases hx
/-- a book of taltop's -/
structure Led (b : Bok) (U : Nat → Prop) : Prop where
  ok : BOk b
  ac : b.ac = topB.ac
  sh : b.shut = -1
  ky : ∀ y ∈ b.en, ∃ j, U j ∧ j < 200 ∧ y.key = kyB j
theorem topB_ok : BOk topB := (bookc_iff topB).1 (by decide +kernel)
theorem Led.start (U : Nat → Prop) : Led topB U := ⟨topB_ok, rfl, rfl, fun y hy => by cases hy⟩
theorem Led.post {b : Bok} {U : Nat → Prop} (h : Led b U) {n : Nat} (hn : n < 200) (hU : ¬ U n) {d : Int} {ls : List Ln} (he : linec ls = 0) (h0 : 0 ≤ d) (h9 : d ≤ 292193) (hk : ∀ l ∈ ls, hasB topB.ac l.1 = true) (hl : b.en.length < 60) :
    postc b ⟨kyB n, d, ls⟩ = 0 ∧ Led (postb b ⟨kyB n, d, ls⟩) (fun j => U j ∨ j = n) ∧ (∀ s f t, ofS (postb b ⟨kyB n, d, ls⟩).en s f t = ofS b.en s f t + enOf s f t ⟨kyB n, d, ls⟩) ∧ (postb b ⟨kyB n, d, ls⟩).en.length = b.en.length + 1 := by
  have hf : ¬ 0 ≤ findE b.en (kyB n) := by
    rcases findE_cases b.en (kyB n) with ⟨e, _⟩ | ⟨i, hi, _, hke⟩
    · rw [e]; omega
    · obtain ⟨j, hj, hj2, hy⟩ := h.ky _ (List.getElem_mem hi)
      rw [hke] at hy
      exact absurd (kyB_inj hn hj2 hy ▸ hj) hU
  have hec : enc ⟨kyB n, d, ls⟩ = 0 := by
    show entc (kyB n) d ls = 0
    unfold entc
    rw [if_neg (by simp [kyB_ok ⟨n, hn⟩]), if_neg (by omega)]
    exact he
  have hkn : knownB b.ac ⟨kyB n, d, ls⟩ = true := by
    unfold knownB
    rw [h.ac]
    exact List.all_eq_true.2 hk
  have hc : postc b ⟨kyB n, d, ls⟩ = 0 := by
    unfold postc
    rw [if_neg (by simp [(bookc_iff b).2 h.ok]), if_neg (by simp [hec]), if_neg hf, if_neg (by simp [hkn]), if_neg (by rw [h.sh]; simp only; omega), if_neg (by omega)]
  have hp : postb b ⟨kyB n, d, ls⟩ = { b with en := ins ⟨kyB n, d, ls⟩ b.en } := by unfold postb; rw [if_neg hf]
  refine ⟨hc, ⟨post_ok hc, (post_ac _ _).1.trans h.ac, (post_ac _ _).2.trans h.sh, fun y hy => ?_⟩, fun s f t => ?_, ?_⟩
  · rw [hp] at hy
    rcases mem_ins.1 hy with rfl | hy
    · exact ⟨n, .inr rfl, hn, rfl⟩
    · obtain ⟨j, h1, h2, h3⟩ := h.ky y hy
      exact ⟨j, .inl h1, h2, h3⟩
  · rw [post_of hc, if_neg hf]
  · rw [post_len hc, if_neg hf]
theorem Led.mono {b : Bok} {U V : Nat → Prop} (h : Led b U) (hUV : ∀ j, U j → V j) : Led b V :=
  ⟨h.ok, h.ac, h.sh, fun y hy => by obtain ⟨j, a, b⟩ := h.ky y hy; exact ⟨j, hUV j a, b⟩⟩
/-- a balance of such a book -/
theorem Led.bal {b : Bok} {U : Nat → Prop} (h : Led b U) {s : ByteArray} (hs : hasB topB.ac s = true) {d : Int} (h0 : 0 ≤ d) (h9 : d ≤ 292193) : balc b s d = 0 ∧ balv b s d = ofS b.en s 0 d := by
  have hc := balc_of (b := b) (s := s) (d := d) h.ok (by rw [h.ac]; exact hs) h0 h9
  exact ⟨hc, (balc_zero hc).2.2.2.2⟩
theorem top_has : hasB topB.ac s10 = true ∧ hasB topB.ac t15 = true ∧ hasB topB.ac s20 = true ∧ hasB topB.ac s40 = true ∧ hasB topB.ac s50 = true := by decide +kernel
theorem top_codes : codeB s10 = true ∧ codeB t15 = true ∧ codeB s20 = true ∧ codeB s40 = true ∧ codeB s50 = true := by decide +kernel
/-- what an entry of two lines adds to a balance -/
theorem two_of {a c s : ByteArray} {v : Int} {k : ByteArray} {d t : Int} (h0 : 0 ≤ d) (hac : a ≠ c) : enOf s 0 t ⟨k, d, [(a, v), (c, -v)]⟩ = if t < d then 0 else if a = s then v else if c = s then -v else 0 := by
  unfold enOf lnOf
  simp only [sm]
  by_cases ht : t < d
  · rw [if_pos (.inr ht), if_pos ht]
  · rw [if_neg (by omega), if_neg ht]
    by_cases h1 : a = s
    · rw [if_pos h1, if_pos h1, if_neg (fun e => hac (h1.trans e.symm))]; omega
    · rw [if_neg h1, if_neg h1]
      split <;> omega

end Go.Proofs.Ytdpphneebikdpaa

/- The walks of trial.look, trial.Trial, trial.kinds, trial.Profit, trial.Sheet. -/
namespace Go.Proofs.Ytdpphneebikdpaa
open Go.ChangeShapes Go.WideShapes Go.ChangeAt Go.RowKit Go.PlainAid
set_option linter.unusedVariables false
set_option maxRecDepth 100000

def lookc (b : Bok) (day : Int) : Int := if bookc b ≠ 0 then bookc b else if day < 0 ∨ 292193 < day then 1 else 0
set_option maxHeartbeats 800000 in
theorem look_any (A : Option Addr) (n c : Nat) (X : Option Addr) (m k : Nat) (b : Bok) (day : Int) (w : World) (h : Bq w A n c X m k b) :
    Calls Try.prog 54 #[bv A n c X m k b.shut, .int .i64 day] w fun e w' => e = .returned (.int .i64 (lookc b day)) ∧ Mor w w' := by
  have HC := Lib.hid (fun w' (hm : Mor w w') => bcheck_any A n c X m k b w' (h.mor hm))
  have HL := Lib.hid (show lookc b day = if bookc b ≠ 0 then bookc b else if day < 0 ∨ 292193 < day then 1 else 0 from rfl)
  have HD := Lib.hid (fun w => cis_any day w)
  generalize lookc b day = l at *
  generalize bookc b = r at *
  generalize b.shut = sh at *
  clear h
  by_cases h1 : r = 0
  · subst h1
    rw [if_neg (by simp)] at HL
    by_cases h3 : day < 0 ∨ 292193 < day
    · rw [if_pos h3] at HL
      rw [show (decide (0 ≤ day) && decide (day ≤ 292193)) = false by simp; omega] at HD
      go_enter Try.func54, Try.ntmps54
      go_wp2_with fail
      refine (HC.out _ (Mor.refl _).alloc).mono ?_
      rintro e w1 ⟨rfl, hm⟩
      have HM := Lib.hid ((Mor.refl w).alloc.trans' hm)
      clear hm
      go_wp2_with (go_at_call 48; (with_reducible refine (HD.out _).mono ?_); rintro e w2 ⟨rfl, rfl⟩)
      go_ret
      exact ⟨by rw [HL.out] <;> rfl, HM.out⟩
    · rw [if_neg h3] at HL
      rw [show (decide (0 ≤ day) && decide (day ≤ 292193)) = true by simp; omega] at HD
      go_enter Try.func54, Try.ntmps54
      go_wp2_with fail
      refine (HC.out _ (Mor.refl _).alloc).mono ?_
      rintro e w1 ⟨rfl, hm⟩
      have HM := Lib.hid ((Mor.refl w).alloc.trans' hm)
      clear hm
      go_wp2_with (go_at_call 48; (with_reducible refine (HD.out _).mono ?_); rintro e w2 ⟨rfl, rfl⟩)
      go_ret
      exact ⟨by rw [HL.out] <;> rfl, HM.out⟩
  · rw [if_pos h1] at HL
    have hr : (r != 0) = true := by simpa using h1
    go_enter Try.func54, Try.ntmps54
    go_wp2_with fail
    refine (HC.out _ (Mor.refl _).alloc).mono ?_
    rintro e w1 ⟨rfl, hm⟩
    have HM := Lib.hid ((Mor.refl w).alloc.trans' hm)
    clear hm
    go_wp2_with fail
    go_ret
    exact ⟨by rw [HL.out] <;> rfl, HM.out⟩
theorem lookc_zero {b : Bok} {d : Int} (h : lookc b d = 0) : BOk b ∧ 0 ≤ d ∧ d ≤ 292193 := by
  unfold lookc at h
  by_cases h1 : bookc b = 0
  · rw [if_neg (by simp [h1])] at h
    by_cases h2 : d < 0 ∨ 292193 < d
    · rw [if_pos h2] at h; omega
    · exact ⟨(bookc_iff b).1 h1, by omega, by omega⟩
  · rw [if_pos h1] at h; exact absurd h h1
theorem lookc_of {b : Bok} {d : Int} (h1 : BOk b) (h2 : 0 ≤ d) (h3 : d ≤ 292193) : lookc b d = 0 := by
  unfold lookc; rw [if_neg (by simp [(bookc_iff b).2 h1]), if_neg (by omega)]

/- Trial -/
end Go.Proofs.Ytdpphneebikdpaa

/- What is posted is found again; stepping over an entry's and a book's variable. -/
namespace Go.Proofs.Ytdpphneebikdpaa
open Go.ChangeShapes Go.WideShapes Go.ChangeAt Go.RowKit Go.PlainAid
set_option linter.unusedVariables false
set_option maxRecDepth 100000

theorem find_mem {es : List En} (h : es.Pairwise fun x y => x.key ≠ y.key) {x : En} (hx : x ∈ es) : ∃ i : Nat, i < es.length ∧ findE es x.key = i ∧ ne es i = x := by
  obtain ⟨j, hj, rfl⟩ := List.mem_iff_getElem.1 hx
  rcases findE_cases es es[j].key with ⟨_, hn⟩ | ⟨i, hi, e, hk⟩
  · exact absurd rfl (hn _ (List.getElem_mem hj))
  · refine ⟨i, hi, e, ?_⟩
    rw [ne_eq _ _ hi]
    rcases Nat.lt_trichotomy i j with hlt | hlt | hlt
    · exact absurd hk ((List.pairwise_iff_getElem.1 h) i j hi hj hlt)
    · subst hlt; rfl
    · exact absurd hk.symm ((List.pairwise_iff_getElem.1 h) j i hj hi hlt)
theorem post_again {b : Bok} {x : En} (h : BOk b) (he : enc x = 0) (hx : x ∈ b.en) : postc b x = 0 ∧ postb b x = b := by
  obtain ⟨i, hi, hf, hn⟩ := find_mem h.keys hx
  have h0 : 0 ≤ findE b.en x.key := by rw [hf]; omega
  refine ⟨?_, by unfold postb; rw [if_pos h0]⟩
  unfold postc
  rw [if_neg (by simp [(bookc_iff b).2 h]), if_neg (by simp [he]), if_pos h0, hf, if_pos (by simpa using hn)]
/-- the four facts of a variable of three cells, carried along -/
def C3 (w : World) (g : Nat) (a b c : Value) : Prop := w.cell? ⟨g, 0, none⟩ = some a ∧ w.cell? ⟨g, 1, none⟩ = some b ∧ w.cell? ⟨g, 2, none⟩ = some c ∧ g < w.heap.size
theorem C3.mor {w w' : World} {g : Nat} {a b c : Value} (h : C3 w g a b c) (hm : Mor w w') : C3 w' g a b c :=
  ⟨(hm.below.cell h.2.2.2).trans h.1, (hm.below.cell h.2.2.2).trans h.2.1, (hm.below.cell h.2.2.2).trans h.2.2.1, Nat.lt_of_lt_of_le h.2.2.2 hm.below.size⟩
theorem C3.new (w : World) (a b c : Value) (T : TypeId) : C3 (w.alloc (.cells #[a, b, c] T)) w.heap.size a b c := by
  have hb := Bk.new w T #[a, b, c]
  exact ⟨by rw [hb.cell]; rfl, by rw [hb.cell]; rfl, by rw [hb.cell]; rfl, hb.lt⟩
end Go.Proofs.Ytdpphneebikdpaa
