/- The walks of strings.HasPrefix and acct.Under. -/
import Derived.Test.YtohpibjjlfpaaaaGreatDoorPBookOwnZ1
import Derived.Test.YtohpibjjlfpaaaaGreatDoorPBookOwnZ2
import Derived.Test.YtohpibjjlfpaaaaGreatDoorPBookOwnZ3
import Derived.Test.YtohpibjjlfpaaaaGreatDoorPBookOwnZ4
import Derived.Test.YtohpibjjlfpaaaaGreatDoorPBookOwnZ5
import Derived.Test.YtohpibjjlfpaaaaGreatDoorPBookOwnZ6
import Derived.Test.YtohpibjjlfpaaaaGreatDoorPBookOwnZ9
import Derived.Test.YtohpibjjlfpaaaaGreatDoorPBookOwnZ10
import Derived.Test.YtohpibjjlfpaaaaGreatDoorPBookOwnZ11
import Derived.Test.YtohpibjjlfpaaaaGreatDoorRows
import Derived.BigQuiet
import Derived.DataElems
import Derived.Deep.LoopGhost
import Derived.Deep.QuietTactic
import Derived.Deep.SlicePairs
import Derived.Deep.Slices
import Derived.Deep.Strs
import Derived.Handy
import Derived.Laws.Cover1
import Derived.Lib.Bytealg
import Derived.Lib.Hide
import Derived.OpenShut
import Derived.Outline
import Derived.OwnWalk
import Derived.PlainAid
import Derived.ProofKit
import Derived.RegionTactic
import Derived.Shelf.Abstract
import Derived.Sort.Walk0
import Derived.WalkKit
namespace Go.Proofs.YtohpibjjlfpaaaaGreatDoor
open Go.ChangeShapes Go.WideShapes Go.ChangeAt Go.RowKit Go.PlainAid
set_option linter.unusedVariables false
set_option maxRecDepth 100000

/-- is s the beginning of t? -/
def preB (s t : ByteArray) : Bool := decide (t.toList.take s.size = s.toList)
theorem size_list (s : ByteArray) : s.toList.length = s.size := by rw [ByteArray.toList_eq, Array.length_toList]; rfl
theorem pre_cut (s t : ByteArray) : ((t.extract 0 s.size).toList == s.toList) = preB s t := by
  have e : (t.extract 0 s.size).toList = t.toList.take s.size := by
    rw [ByteArray.toList_eq, ByteArray.toList_eq, ByteArray.data_extract, Array.toList_extract]
    simp
  rw [e]
  unfold preB
  by_cases h : t.toList.take s.size = s.toList
  · rw [decide_eq_true h, h]; simp
  · rw [decide_eq_false h]; exact beq_eq_false_iff_ne.2 h
theorem pre_long (s t : ByteArray) (h : ¬ s.size ≤ t.size) : preB s t = false := by
  unfold preB
  refine decide_eq_false fun e => ?_
  have := congrArg List.length e
  rw [List.length_take, size_list, size_list] at this
  omega
set_option maxHeartbeats 400000 in
theorem prefix_any (t s : ByteArray) (w : World) (ht : t.size ≤ maxLen) (hs : s.size ≤ maxLen) :
    Calls Tryz.prog 40 #[.string t, .string s] w fun e w' => e = .returned (.bool (preB s t)) ∧ w = w' := by
  unfold maxLen at ht hs
  have HC := Lib.hid (pre_cut s t)
  have HL := Lib.hid (pre_long s t)
  go_enter Tryz.func40, Tryz.ntmps40
  go_wp2
  all_goals go_ret
  · exact ⟨by rw [← HC.out]; rfl, rfl⟩
  · exact ⟨by rw [HL.out (by assumption)]; rfl, rfl⟩
/-- the codes that begin with s -/
def und (ac : List Ln) (s : ByteArray) : List ByteArray := (ac.filter fun a => preB s a.1).map (·.1)
theorem und_take (ac : List Ln) (s : ByteArray) (k : Nat) (h : k < ac.length) : und (ac.take (k + 1)) s = und (ac.take k) s ++ if preB s (cd ac k) = true then [cd ac k] else [] := by
  unfold und
  rw [List.take_succ_eq_append_getElem h, List.filter_append, List.map_append, (cd_at ac k h).1]
  congr 1
  by_cases hp : preB s ac[k].1 = true
  · rw [if_pos hp]; simp [List.filter, hp]
  · rw [if_neg hp]; simp [List.filter, hp]
theorem und_len (ac : List Ln) (s : ByteArray) : (und ac s).length ≤ ac.length := by
  unfold und; rw [List.length_map]; exact List.length_filter_le _ _
def undO (ac : List Ln) (s : ByteArray) : List ByteArray := if acc ac = 0 then und ac s else []
theorem info_str : (Tryz.prog.info? 9).map (fun i => (i.zero, i.size, i.bytes)) = some (some (.string { data := #[] }), 1, 16) := by kernel_rfl
theorem own_stepU {w wr w1 : World} {T : TypeId} {s : Nat} {v : Value} {n : Nat} {xs : List Value} (hown : wr.ownsRow w.heap.size T s v n xs) (hnx : Mor w wr)
    (hgrow : wr.grownBy w1 v.ownBlock) : Mor w w1 := by
  refine Mor.of_below (hnx.below.grown hgrow hnx.below.size ?_)
  intro k hk
  obtain ⟨_, h | ⟨g, cap, cur, rfl, hg, _⟩⟩ := hown
  · rw [h.1] at hk; simp [Value.ownBlock] at hk
  · simp [Value.ownBlock] at hk; omega
theorem own_mor' {w w' : World} {B s n : Nat} {T : TypeId} {v : Value} {xs : List Value} (h : w.ownsRow B T s v n xs) (hm : Mor w w') : w'.ownsRow B T s v n xs := by
  refine ⟨h.1, ?_⟩
  rcases h.2 with hn | ⟨g, cap, cur2, rfl, hg2, hh, rest⟩
  · exact .inl hn
  · exact .inr ⟨g, cap, cur2, rfl, hg2, (hm.below.block g (Array.getElem?_eq_some_iff.1 hh).1).trans hh, rest⟩

set_option maxRecDepth 100000 in
set_option maxHeartbeats 1600000 in
theorem under_own (A : Option Addr) (n c : Nat) (ac : List Ln) (s : ByteArray) (w : World) (hl : Lq w A n c ac) (hs : s.size ≤ maxLen) :
    Calls Tryz.prog 9 #[.slice A n c, .string s] w fun e w' => ∃ U k, e = .returned (.tuple #[.slice U (undO ac s).length k, .int .i64 (acc ac)]) ∧ w'.ownsRow w.heap.size 9 1 (.slice U (undO ac s).length k) (undO ac s).length ((undO ac s).map Value.string) ∧ Mor w w' := by
  obtain ⟨i0, hi, hz0, hz1, hz2⟩ := info_parts info_str
  have HC := Lib.hid (fun w' (h : Mor w w') => acct_any A n c ac w' (hl.si.mor h) hl.length (Nat.le_trans hl.le hl.max) hl.str)
  by_cases hc : acc ac = 0
  · have ho : undO ac s = und ac s := by unfold undO; rw [if_pos hc]
    have hn24 : n ≤ 24 := by rw [← hl.length]; exact (acc_ok hc).1
    have HL := Lib.hid (fun w' (h : Mor w w') => hl.si.mor h)
    have HN := Lib.hid hl.length
    have HStr := Lib.hid hl.str
    have HTk := Lib.hid (fun j (hj : j < n) => und_take ac s j (by rw [hl.length]; exact hj))
    have HLn := Lib.hid (fun j (hj : j ≤ n) => show (und (ac.take j) s).length ≤ j from Nat.le_trans (und_len _ _) (by rw [List.length_take]; omega))
    have HAll := Lib.hid (show ac.take n = ac from List.take_of_length_le (by rw [hl.length]; exact Nat.le_refl _))
    have HS := Lib.hid hs
    rw [ho]
    rw [hc] at HC ⊢
    clear hl hc ho hs
    go_enter Tryz.func9, Tryz.ntmps9
    go_wp2_with fail
    refine (HC.out _ (Mor.refl _)).mono ?_
    rintro e w1 ⟨rfl, hm1⟩
    have HM1 := Lib.hid hm1
    clear hm1
    go_wp2_with fail
    go_loopw [7, 17] (fun v i wr => ∃ j : Nat, j ≤ n ∧ i = .int .i64 j ∧ Hid (Mor w wr ∧ wr.ownsRow w.heap.size 9 1 v (und (ac.take j) s).length ((und (ac.take j) s).map Value.string))) (fun _ i _ => n - (intOf i).toNat)
    case atStart => exact ⟨0, Nat.zero_le _, rfl, Lib.hid ⟨HM1.out, by rw [List.take_zero]; exact World.ownsRow_nil _ _ _ _⟩⟩
    case round =>
      obtain ⟨j, hj, rfl, HR⟩ := hrel
      obtain ⟨hm, hrow⟩ := HR.out
      have hlj := HLn.out j hj
      obtain ⟨AL, cL, rfl, hcL, _, _⟩ := own_shape hrow
      by_cases hlt : j < n
      · have hji : (j : Int) < (n : Int) := by omega
        have hj0 : (0 : Int) ≤ (j : Int) := by omega
        obtain ⟨x, hA, hxb, d0, d1⟩ := (HL.out _ hm).at_ j (by rw [HN.out]; exact hlt)
        subst hA
        have HTj := Lib.hid (HTk.out j hlt)
        have HP := Lib.hid (fun w' => prefix_any (cd ac j) s w' (HStr.out j hlt) HS.out)
        generalize und (ac.take j) s = us at *
        generalize hpr : preB s (cd ac j) = pb at *
        generalize cd ac j = t at *
        generalize am ac j = a at *
        have HM := Lib.hid hm
        have HRow := Lib.hid hrow
        clear hm hrow HR hpr
        cases pb
        · rw [if_neg (by simp), List.append_nil] at HTj
          go_wp2_with (go_at_call 40; (with_reducible refine (HP.out _).mono ?_); rintro e w5 ⟨rfl, rfl⟩)
          go_roundw
          case rel => exact ⟨j + 1, by omega, by go_num, Lib.hid ⟨HM.out.alloc, by rw [HTj.out]; exact own_mor' HRow.out (Mor.refl _).alloc⟩⟩
          case measure => simp [intOf]; omega
        · rw [if_pos rfl] at HTj
          go_wp2_with (first | (go_at_call 40; (with_reducible refine (HP.out _).mono ?_); rintro e w5 ⟨rfl, rfl⟩) | (at_builtin; refine wpList_append_own _ rfl _ _ 41 rfl w.heap.size 9 i0 (.string { data := #[] }) 1 16 Tryz.underlying41 hi hz0 hz1 hz2 rfl (by decide) _ _ _ rfl ((own_mor' HRow.out (Mor.refl _).alloc).alloc _) ⟨wr.heap.size + 1, 0, none⟩ 1 1 [.string t] rfl rfl ?_ ?_ ?_ ?_ ?_ ?_))
          case refine_6 =>
            intro v' w5 hown' hgrow _
            obtain ⟨A5, c5, rfl, _, _, _⟩ := own_shape hown'
            have HM5 := Lib.hid (show Mor w w5 from own_stepU ((own_mor' HRow.out (Mor.refl _).alloc).alloc _) (HM.out.alloc.alloc) hgrow)
            have HO5 := Lib.hid hown'
            clear hown' hgrow
            go_wp2_with fail
            go_roundw
            case rel => exact ⟨j + 1, by omega, by go_num, Lib.hid ⟨HM5.out, by rw [HTj.out, List.map_append, List.length_append]; simpa using HO5.out⟩⟩
            case measure => simp [intOf]; omega
          all_goals try (first | (exact rfl) | (intro u hu; simp at hu; subst hu; rfl) | (unfold maxLen; omega) | omega | (have := HM.out.below.size; simp [go_sem]; omega) | (intro j u hj; match j, hj with | 0, hj => simp at hj; subst hj; simp [Addr.add]))
      · obtain rfl : j = n := by omega
        rw [HAll.out] at hrow hlj hcL ⊢
        have HM := Lib.hid hm
        have HRow := Lib.hid hrow
        clear hm hrow HR
        go_wp2_with fail
        go_returns
        exact ⟨AL, cL, rfl, HRow.out, HM.out⟩
  · have ho : undO ac s = [] := by unfold undO; rw [if_neg hc]
    have hcb : (acc ac != 0) = true := by simpa using hc
    rw [ho]
    generalize acc ac = r at *
    clear hc ho hl hs
    go_enter Tryz.func9, Tryz.ntmps9
    go_wp2_with fail
    refine (HC.out _ (Mor.refl _)).mono ?_
    rintro e w1 ⟨rfl, hm1⟩
    have HM1 := Lib.hid hm1
    clear hm1
    go_wp2_with fail
    go_returns
    exact ⟨none, 0, rfl, World.ownsRow_nil _ _ _ _, HM1.out⟩

end Go.Proofs.YtohpibjjlfpaaaaGreatDoor
