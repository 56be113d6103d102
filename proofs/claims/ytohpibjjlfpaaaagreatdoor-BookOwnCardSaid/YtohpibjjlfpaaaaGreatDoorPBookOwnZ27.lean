/- The walks of talref.Same, talref.SameBook (of the same), talkeep.plain, day. -/
import Derived.Test.YtohpibjjlfpaaaaGreatDoorPBookOwnZ1
import Derived.Test.YtohpibjjlfpaaaaGreatDoorPBookOwnZ2
import Derived.Test.YtohpibjjlfpaaaaGreatDoorPBookOwnZ3
import Derived.Test.YtohpibjjlfpaaaaGreatDoorPBookOwnZ4
import Derived.Test.YtohpibjjlfpaaaaGreatDoorPBookOwnZ5
import Derived.Test.YtohpibjjlfpaaaaGreatDoorPBookOwnZ6
import Derived.Test.YtohpibjjlfpaaaaGreatDoorPBookOwnZ9
import Derived.Test.YtohpibjjlfpaaaaGreatDoorPBookOwnZ10
import Derived.Test.YtohpibjjlfpaaaaGreatDoorPBookOwnZ11
import Derived.Test.YtohpibjjlfpaaaaGreatDoorPBookOwnZ12
import Derived.Test.YtohpibjjlfpaaaaGreatDoorPBookOwnZ13
import Derived.Test.YtohpibjjlfpaaaaGreatDoorPBookOwnZ15
import Derived.Test.YtohpibjjlfpaaaaGreatDoorPBookOwnZ19
import Derived.Test.YtohpibjjlfpaaaaGreatDoorPBookOwnZ20
import Derived.Test.YtohpibjjlfpaaaaGreatDoorPBookOwnZ21
import Derived.Test.YtohpibjjlfpaaaaGreatDoorPBookOwnZ22
import Derived.Test.YtohpibjjlfpaaaaGreatDoorPBookOwnZ23
import Derived.Test.YtohpibjjlfpaaaaGreatDoorPBookOwnZ24
import Derived.Test.YtohpibjjlfpaaaaGreatDoorPBookOwnZ25
import Derived.Test.YtohpibjjlfpaaaaGreatDoorPBookOwnZ26
import Derived.Test.YtohpibjjlfpaaaaGreatDoorRows
import Derived.BigQuiet
import Derived.BigRegion
import Derived.Carry
import Derived.DataElems
import Derived.Deep.DeepCutAuto
import Derived.Deep.LoopGhost
import Derived.Deep.QuietTactic
import Derived.Deep.RegionHeld3
import Derived.Deep.RegionLaw
import Derived.Deep.RegionWith
import Derived.Deep.SlicePairs
import Derived.Deep.Slices
import Derived.Deep.Strs
import Derived.Handy
import Derived.Laws.AppendOwn
import Derived.Laws.CopyOwn
import Derived.Laws.CopyRow
import Derived.Laws.Cover1
import Derived.Laws.Externs
import Derived.Laws.NewBlocks
import Derived.Lib.AppendZerosOnto
import Derived.Lib.Bytealg
import Derived.Lib.Hide
import Derived.Lib.Overlaps
import Derived.Lib.SliceRun
import Derived.Lib.Walk
import Derived.Maps.Own
import Derived.Maps.OwnSet
import Derived.Maps.Views
import Derived.OpenShut
import Derived.Outline
import Derived.OwnWalk
import Derived.PlainAid
import Derived.ProofKit
import Derived.RegionTactic
import Derived.Shelf.Abstract
import Derived.Shelf.RegionOpenPlain
import Derived.Sort.Walk0
import Derived.StringKeys
import Derived.WalkKit
import Derived.WalkSpells
namespace Go.Proofs.YtohpibjjlfpaaaaGreatDoor
open Go.ChangeShapes Go.WideShapes Go.ChangeAt Go.RowKit Go.PlainAid
set_option linter.unusedVariables false
set_option maxRecDepth 100000

set_option maxRecDepth 100000 in
set_option maxHeartbeats 1600000 in
theorem equal_ac (A A' : Option Addr) (n c c' : Nat) (xs : List Ln) (w : World) (hr : Si w A xs) (hr' : Si w A' xs) (hn : xs.length = n) (hl : n ≤ maxLen) :
    Calls Tryz.prog 54 #[.slice A n c, .slice A' n c'] w fun e w' => e = .returned (.bool true) ∧ ∃ k, w' = w.drewN k := by
  unfold maxLen at hl
  have HR := Lib.hid hr
  have HR' := Lib.hid hr'
  have HN := Lib.hid hn
  clear hr hr' hn
  go_enter Tryz.func54, Tryz.ntmps54
  go_wp2
  go_loopw [13] (fun i wr => ∃ k m : Nat, k ≤ n ∧ i = .int .i64 k ∧ wr = w.drewN m) (fun i _ => n - (intOf i).toNat)
  case atStart => exact ⟨0, 0, Nat.zero_le _, rfl, rfl⟩
  case round =>
    obtain ⟨k, m, hk, rfl, rfl⟩ := hrel
    by_cases hlt : k < n
    · obtain ⟨x, hA, hxb, c1, c2⟩ := HR.out.at_ k (by rw [HN.out]; exact hlt)
      obtain ⟨y, hA', hyb, d1, d2⟩ := HR'.out.at_ k (by rw [HN.out]; exact hlt)
      subst hA hA'
      generalize cd xs k = s at *
      generalize am xs k = a at *
      have hi : ((k : Nat) : Int) < (n : Int) := by omega
      go_wp2
      go_quiet (fail)
      go_wp2
      go_roundw
      case rel => exact ⟨k + 1, _, by omega, by go_num, rfl⟩
      case measure => simp [intOf]; omega
    · have e : k = n := by omega
      subst e
      go_wp2
      go_ret
      exact ⟨rfl, _, rfl⟩

set_option maxRecDepth 100000 in
set_option maxHeartbeats 1600000 in
theorem equal_en (X X' : Option Addr) (m k k' : Nat) (es : List En) (w : World) (hr : Es w X es) (hr' : Es w X' es) (hn : es.length = m) (hl : m ≤ maxLen) :
    Calls Tryz.prog 55 #[.slice X m k, .slice X' m k', .func (.func 56) #[] #[]] w fun e w' => e = .returned (.bool true) ∧ Mor w w' := by
  unfold maxLen at hl
  have HR := Lib.hid hr
  have HR' := Lib.hid hr'
  have HN := Lib.hid hn
  clear hr hr' hn
  go_enter Tryz.func55, Tryz.ntmps55
  go_wp2
  go_loopw [17] (fun i wr => ∃ j : Nat, j ≤ m ∧ i = .int .i64 j ∧ Hid (Mor w wr)) (fun i _ => m - (intOf i).toNat)
  case atStart => exact ⟨0, Nat.zero_le _, rfl, Lib.hid (Mor.refl _)⟩
  case round =>
    obtain ⟨j, hj, rfl, HM⟩ := hrel
    by_cases hlt : j < m
    · have hji : (j : Int) < (m : Int) := by omega
      have hj0 : (0 : Int) ≤ (j : Int) := by omega
      obtain ⟨x, B, p, q, hX, hxb, -, d0, d1, d2, hq⟩ := (HR.out.mor HM.out).at_ j (by rw [HN.out]; exact hlt)
      obtain ⟨y, B', p', q', hX', hyb, -, f0, f1, f2, hq'⟩ := (HR'.out.mor HM.out).at_ j (by rw [HN.out]; exact hlt)
      subst hX hX'
      have HS := Lib.hid (fun w' (h : Mor wr w') => rsame_any (ne es j) (ne es j) B B' p q p' q' w' (hq.mor h) (hq'.mor h))
      rw [decide_eq_true (rfl : ne es j = ne es j)] at HS
      clear hq hq'
      generalize (ne es j).key = ky at *
      generalize (ne es j).day = dy at *
      have hal := ((Mor.refl wr).alloc (o := .cells #[.string ky, .int .i64 dy, .slice B p q] 28)).below
      have fa0 := (hal.cell (p := y.add (j * 3)) (by rw [addb]; exact hyb)).trans f0
      have fa1 := (hal.cell (p := ⟨(y.add (j * 3)).block, (y.add (j * 3)).off + 1, none⟩) (by rw [addb]; exact hyb)).trans f1
      have fa2 := (hal.cell (p := ⟨(y.add (j * 3)).block, (y.add (j * 3)).off + 2, none⟩) (by rw [addb]; exact hyb)).trans f2
      clear hal
      go_wp2_with (first | (go_at_call 56; (with_reducible refine (HS.out _ ((Mor.refl _).alloc.alloc)).mono ?_); rintro e w5 ⟨rfl, bs, dr, rfl⟩) | (go_at_fn 56; (with_reducible refine (HS.out _ ((Mor.refl _).alloc.alloc)).mono ?_); rintro e w5 ⟨rfl, bs, dr, rfl⟩))
      go_roundw
      case rel => exact ⟨j + 1, by omega, by go_num, Lib.hid (HM.out.alloc.alloc.more)⟩
      case measure => simp [intOf]; omega
    · obtain rfl : j = m := by omega
      go_wp2
      go_ret
      exact ⟨rfl, HM.out⟩

set_option maxRecDepth 100000 in
set_option maxHeartbeats 1600000 in
theorem samebook_yes (A A' : Option Addr) (n c c' : Nat) (X X' : Option Addr) (m k k' : Nat) (sh : Int) (b : Bok) (w : World) (h : Bq w A n c X m k b) (h' : Bq w A' n c' X' m k' b) :
    Calls Tryz.prog 18 #[bv A n c X m k sh, bv A' n c' X' m k' sh] w fun e w' => e = .returned (.bool true) ∧ Mor w w' := by
  have HA := Lib.hid (fun w' (hm : Mor w w') => equal_ac A A' n c c' b.ac w' (h.ac.si.mor hm) (h'.ac.si.mor hm) h.ac.length (Nat.le_trans h.ac.le h.ac.max))
  have HE := Lib.hid (fun w' (hm : Mor w w') => equal_en X X' m k k' b.en w' (h.es.mor hm) (h'.es.mor hm) h.length (Nat.le_trans h.le h.max))
  clear h h'
  go_enter Tryz.func18, Tryz.ntmps18
  go_wp2_with (first | (go_at_call 54; (with_reducible refine (HA.out _ ((Mor.refl _).alloc.alloc)).mono ?_); rintro e w5 ⟨rfl, dr, rfl⟩) | (go_at_call 55; (with_reducible refine (HE.out _ ((Mor.refl _).alloc.alloc.drewN)).mono ?_); rintro e w5 ⟨rfl, bs, dr2, rfl⟩))
  go_ret
  exact ⟨rfl, by repeat (first | exact Mor.refl _ | apply Mor.alloc | apply Mor.more | apply Mor.drewN | apply Mor.drew)⟩

abbrev s20 : ByteArray := { data := #[50, 48] }
abbrev s30 : ByteArray := { data := #[51, 48] }
abbrev s50 : ByteArray := { data := #[53, 48] }
abbrev ka : ByteArray := { data := #[97] }
def plainB : Bok := ⟨[(s10, 0), (s20, 1), (s30, 2), (s40, 3), (s50, 4)], [], -1⟩
def saleE (key : ByteArray) (d n : Int) : En := ⟨key, d, [(s10, n), (s40, -n)]⟩
theorem plain_str : ∀ i, i < 5 → (cd plainB.ac i).size ≤ maxLen := by
  intro i hi
  match i, hi with
  | 0, _ | 1, _ | 2, _ | 3, _ | 4, _ => exact of_decide_eq_true (by decide)
set_option maxHeartbeats 1600000 in
theorem plain_any (w : World) :
    Calls Tryz.prog 30 #[] w fun e w' => ∃ g, e = .returned (bv (some ⟨g, 0, none⟩) 5 5 none 0 0 (-1)) ∧ Bq w' (some ⟨g, 0, none⟩) 5 5 none 0 0 plainB ∧ Mor w w' := by
  go_enter Tryz.func30, Tryz.ntmps30
  go_wp2_with fail
  go_returns
  refine ⟨w.heap.size + 1, rfl, ⟨⟨Si.of_rd (Rd.new (flat pc plainB.ac) (sz1 _ _) ?_), rfl, Nat.le_refl _, by unfold maxLen; omega, (fun h => by cases h), plain_str⟩, .inl rfl, rfl, Nat.le_refl _, by unfold maxLen; omega, fun _ => rfl⟩, (Mor.refl _).alloc.alloc⟩
  simp [flat, pc, plainB]

theorem plain_post (n : Int) (h1 : n = 7) : postc plainB (saleE ka 5 n) = 0 := by subst h1; decide +kernel
theorem plain_bal : balv (postb plainB (saleE ka 5 7)) s40 5 = -7 ∧ balc (postb plainB (saleE ka 5 7)) s40 5 = 0 ∧ (postb plainB (saleE ka 5 7)).en.length = 1 ∧ bookc (postb plainB (saleE ka 5 7)) = 0 := by decide +kernel

end Go.Proofs.YtohpibjjlfpaaaaGreatDoor

/- The walk of talkeep.bookBegun. -/
namespace Go.Proofs.YtohpibjjlfpaaaaGreatDoor
open Go.ChangeShapes Go.WideShapes Go.ChangeAt Go.RowKit Go.PlainAid
set_option linter.unusedVariables false
set_option maxRecDepth 100000

/-- what Post answers, be it refused or not -/
theorem postYes_bq {w w' : World} {b : Bok} {e : Ending} (h : PostYes w b e w') : ∃ A n c X m k, e = .returned (.tuple #[bv A n c X m k b.shut, .int .i64 0]) ∧ Bq w' A n c X m k b ∧ OwnB w' w.heap.size (.slice A n c) (.slice X m k) n m b ∧ Mor w w' := by
  obtain ⟨A, n, c, X, m, k, he, ho, hm⟩ := h
  obtain ⟨A', c', X', k', e1, e2, hb⟩ := ho.bq
  injection e1 with e1 _ e3
  injection e2 with e4 _ e6
  subst e1 e3 e4 e6
  exact ⟨A, n, c, X, m, k, he, hb, ho, hm⟩
theorem lq_two {w : World} {g : Nat} {a b : ByteArray} {m n : Int} (h : Si w (some ⟨g, 0, none⟩) [(a, m), (b, n)]) (ha : a.size ≤ maxLen) (hb : b.size ≤ maxLen) : Lq w (some ⟨g, 0, none⟩) 2 2 [(a, m), (b, n)] :=
  ⟨h, rfl, Nat.le_refl _, by unfold maxLen; omega, (fun h => by cases h), fun i hi => by
    match i, hi with
    | 0, _ => exact ha
    | 1, _ => exact hb⟩
theorem two_max : (2 : Nat) ≤ maxLen := by unfold maxLen; omega
theorem one_max : (1 : Nat) ≤ maxLen := by unfold maxLen; omega

/-- a book's variable -/
theorem bk_book (w : World) (A : Option Addr) (n c : Nat) (X : Option Addr) (m k : Nat) (s : Int) {w' : World} (h : Mor (w.alloc (.cells #[.slice A n c, .slice X m k, .int .i64 s] 25)) w') :
    w'.cell? ⟨w.heap.size, 0, none⟩ = some (.slice A n c) ∧ w'.cell? ⟨w.heap.size, 1, none⟩ = some (.slice X m k) ∧ w'.cell? ⟨w.heap.size, 2, none⟩ = some (.int .i64 s) ∧ w.heap.size < w'.heap.size := by
  have hb := (Bk.new w 25 #[.slice A n c, .slice X m k, .int .i64 s]).mor h
  exact ⟨by rw [hb.cell]; rfl, by rw [hb.cell]; rfl, by rw [hb.cell]; rfl, hb.lt⟩

set_option maxHeartbeats 3200000 in
theorem begun_any (w : World) : Calls Tryz.prog 4 #[] w fun e w' => e = .returned (.bool true) ∧ Mor w w' := by
  obtain ⟨pb1, pb2, pb3, pb4⟩ := plain_bal
  have HPb := Lib.hid (And.intro pb1 (And.intro pb2 (And.intro pb3 pb4)))
  clear pb1 pb2 pb3 pb4
  go_enter Tryz.func4, Tryz.ntmps4
  go_wp2_with fail
  refine (plain_any _).mono ?_
  rintro e w1 ⟨g, rfl, hq, hm⟩
  have HQ := Lib.hid hq
  have HM1 := Lib.hid hm
  clear hq hm
  go_wp2_with fail
  refine (sale_any ka 5 7 _ (by omega) (by omega)).mono ?_
  rintro e w2 ⟨g2, rfl, hs, hm⟩
  have HQ2 := Lib.hid (HQ.out.mor hm)
  have HS := Lib.hid (lq_two hs two_max two_max)
  have HM2 := Lib.hid (HM1.out.trans' hm)
  clear hs hm HQ HM1
  go_wp2_with fail
  refine (post_yes _ _ _ _ _ _ plainB (saleE ka 5 7) _ _ _ _ HQ2.out HS.out one_max (plain_post 7 rfl)).mono ?_
  intro e w3 h3
  obtain ⟨A, n, c, X, m, k, rfl, hq, ho, hm⟩ := postYes_bq h3
  have hm1 : m = 1 := by rw [← hq.length]; exact HPb.out.2.2.1
  subst hm1
  have HQ3 := Lib.hid hq
  have HM3 := Lib.hid (HM2.out.trans' hm)
  clear hq hm ho h3 HQ2 HS HM2
  have HBa := Lib.hid (fun w' (h : Mor w3 w') => bal_any A n c X 1 k _ s40 5 w' (HQ3.out.mor h))
  have HCk := Lib.hid (fun w' (h : Mor w3 w') => bcheck_any A n c X 1 k _ w' (HQ3.out.mor h))
  rw [HPb.out.1, HPb.out.2.1] at HBa
  rw [HPb.out.2.2.2] at HCk
  go_wp2_with fail
  refine (HBa.out _ (Mor.refl _).alloc).mono ?_
  rintro e w4 ⟨rfl, hm⟩
  obtain ⟨c0, c1, c2, cl⟩ := bk_book _ _ _ _ _ _ _ _ hm
  have HM4 := Lib.hid ((Mor.refl w3).alloc.trans' hm)
  clear hm HBa
  go_wp2_with fail
  refine (HCk.out _ HM4.out).mono ?_
  rintro e w5 ⟨rfl, hm⟩
  have HM5 := Lib.hid ((HM3.out.trans' HM4.out).trans' hm)
  clear hm
  go_wp2_with fail
  go_ret
  exact ⟨rfl, HM5.out⟩

end Go.Proofs.YtohpibjjlfpaaaaGreatDoor

/- ContainsFunc at entries; what balances say, plainly. -/
namespace Go.Proofs.YtohpibjjlfpaaaaGreatDoor
open Go.ChangeShapes Go.WideShapes Go.ChangeAt Go.RowKit Go.PlainAid
set_option linter.unusedVariables false
set_option maxRecDepth 100000

theorem post_ac (b : Bok) (x : En) : (postb b x).ac = b.ac ∧ (postb b x).shut = b.shut := by
  unfold postb; split <;> exact ⟨rfl, rfl⟩
end Go.Proofs.YtohpibjjlfpaaaaGreatDoor

/- What is posted is found again; stepping over an entry's and a book's variable. -/
namespace Go.Proofs.YtohpibjjlfpaaaaGreatDoor
open Go.ChangeShapes Go.WideShapes Go.ChangeAt Go.RowKit Go.PlainAid
set_option linter.unusedVariables false
set_option maxRecDepth 100000

theorem find_mem {es : List En} (h : es.Pairwise fun x y => x.key ≠ y.key) {x : En} (hx : x ∈ es) : ∃ i : Nat, i < es.length ∧ findE es x.key = i ∧ ne es i = x := by
  obtain ⟨j, hj, rfl⟩ := List.mem_iff_getElem.1 hx
  rcases findE_cases es es[j].key with ⟨_, hn⟩ | ⟨i, hi, e, hk⟩
  · exact absurd rfl (hn _ (List.getElem_mem hj))
  · refine ⟨i, hi, e, ?_⟩
    rw [ne_eq _ _ hi]
    rcases Nat.lt_trichotomy i j with hlt | hlt | hlt
    · exact absurd hk ((List.pairwise_iff_getElem.1 h) i j hi hj hlt)
    · subst hlt; rfl
    · exact absurd hk.symm ((List.pairwise_iff_getElem.1 h) j i hj hi hlt)
theorem post_again {b : Bok} {x : En} (h : BOk b) (he : enc x = 0) (hx : x ∈ b.en) : postc b x = 0 ∧ postb b x = b := by
  obtain ⟨i, hi, hf, hn⟩ := find_mem h.keys hx
  have h0 : 0 ≤ findE b.en x.key := by rw [hf]; omega
  refine ⟨?_, by unfold postb; rw [if_pos h0]⟩
  unfold postc
  rw [if_neg (by simp [(bookc_iff b).2 h]), if_neg (by simp [he]), if_pos h0, hf, if_pos (by simpa using hn)]
/-- the four facts of a variable of three cells, carried along -/
def C3 (w : World) (g : Nat) (a b c : Value) : Prop := w.cell? ⟨g, 0, none⟩ = some a ∧ w.cell? ⟨g, 1, none⟩ = some b ∧ w.cell? ⟨g, 2, none⟩ = some c ∧ g < w.heap.size
theorem C3.mor {w w' : World} {g : Nat} {a b c : Value} (h : C3 w g a b c) (hm : Mor w w') : C3 w' g a b c :=
  ⟨(hm.below.cell h.2.2.2).trans h.1, (hm.below.cell h.2.2.2).trans h.2.1, (hm.below.cell h.2.2.2).trans h.2.2.1, Nat.lt_of_lt_of_le h.2.2.2 hm.below.size⟩
theorem C3.new (w : World) (a b c : Value) (T : TypeId) : C3 (w.alloc (.cells #[a, b, c] T)) w.heap.size a b c := by
  have hb := Bk.new w T #[a, b, c]
  exact ⟨by rw [hb.cell]; rfl, by rw [hb.cell]; rfl, by rw [hb.cell]; rfl, hb.lt⟩
end Go.Proofs.YtohpibjjlfpaaaaGreatDoor
