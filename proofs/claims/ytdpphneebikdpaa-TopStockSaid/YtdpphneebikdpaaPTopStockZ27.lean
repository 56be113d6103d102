/- The walk of taltop.TopStock. -/
import Derived.Test.YtdpphneebikdpaaPTopStockZ1
import Derived.Test.YtdpphneebikdpaaPTopStockZ2
import Derived.Test.YtdpphneebikdpaaPTopStockZ3
import Derived.Test.YtdpphneebikdpaaPTopStockZ4
import Derived.Test.YtdpphneebikdpaaPTopStockZ5
import Derived.Test.YtdpphneebikdpaaPTopStockZ6
import Derived.Test.YtdpphneebikdpaaPTopStockZ7
import Derived.Test.YtdpphneebikdpaaPTopStockZ8
import Derived.Test.YtdpphneebikdpaaPTopStockZ9
import Derived.Test.YtdpphneebikdpaaPTopStockZ10
import Derived.Test.YtdpphneebikdpaaPTopStockZ11
import Derived.Test.YtdpphneebikdpaaPTopStockZ12
import Derived.Test.YtdpphneebikdpaaPTopStockZ13
import Derived.Test.YtdpphneebikdpaaPTopStockZ14
import Derived.Test.YtdpphneebikdpaaPTopStockZ15
import Derived.Test.YtdpphneebikdpaaPTopStockZ16
import Derived.Test.YtdpphneebikdpaaPTopStockZ17
import Derived.Test.YtdpphneebikdpaaPTopStockZ18
import Derived.Test.YtdpphneebikdpaaPTopStockZ19
import Derived.Test.YtdpphneebikdpaaPTopStockZ20
import Derived.Test.YtdpphneebikdpaaPTopStockZ21
import Derived.Test.YtdpphneebikdpaaPTopStockZ22
import Derived.Test.YtdpphneebikdpaaPTopStockZ23
import Derived.Test.YtdpphneebikdpaaPTopStockZ24
import Derived.Test.YtdpphneebikdpaaPTopStockZ25
import Derived.Test.YtdpphneebikdpaaPTopStockZ26
import Derived.Test.YtdpphneebikdpaaRows
import Derived.ArgAppend
import Derived.BigQuiet
import Derived.BigRegion
import Derived.Carry
import Derived.DataElems
import Derived.Deep.DeepCutAuto
import Derived.Deep.LoopGhost
import Derived.Deep.OwnRows
import Derived.Deep.QuietTactic
import Derived.Deep.RegionHeld3
import Derived.Deep.RegionLaw
import Derived.Deep.RegionWith
import Derived.Deep.SlicePairs
import Derived.Deep.Slices
import Derived.Deep.Strs
import Derived.Handy
import Derived.IntWalk
import Derived.Laws.AppendOwn
import Derived.Laws.CopyOwn
import Derived.Laws.CopyRow
import Derived.Laws.Cover1
import Derived.Laws.Externs
import Derived.Laws.NewBlocks
import Derived.Lib.AppendZerosOnto
import Derived.Lib.Bytealg
import Derived.Lib.Hide
import Derived.Lib.Overlaps
import Derived.Lib.SliceRun
import Derived.Lib.Walk
import Derived.Maps.Own
import Derived.Maps.OwnSet
import Derived.Maps.Views
import Derived.OpenShut
import Derived.Outline
import Derived.OwnWalk
import Derived.PlainAid
import Derived.ProofKit
import Derived.RegionTactic
import Derived.Shelf.Abstract
import Derived.Shelf.RegionOpenPlain
import Derived.Sort.Walk0
import Derived.StringKeys
import Derived.WalkKit
import Derived.WalkSpells
namespace Go.Proofs.Ytdpphneebikdpaa.topStock
open Go Go.ChangeShapes Go.WideShapes Go.ChangeAt Go.RowKit Go.PlainAid Stb
set_option linter.unusedVariables false
set_option maxRecDepth 100000

theorem cell_set3 {w : World} {g : Nat} {a b c : Value} {q : Addr} (h : q.block ≠ g) : (((w.setCell ⟨g, 0, none⟩ a).setCell ⟨g, 1, none⟩ b).setCell ⟨g, 2, none⟩ c).cell? q = w.cell? q := by
  rw [(set_far _ ⟨g, 2, none⟩ q c h).1, (set_far _ ⟨g, 1, none⟩ q b h).1, (set_far _ ⟨g, 0, none⟩ q a h).1]

set_option maxHeartbeats 400000 in
theorem tsum_ri (A : Option Addr) (n cap : Nat) (xs : List Int) (w : World) (hr : Ri w A xs) (hn : xs.length = n) (hb : ∀ x ∈ xs, -1000000000000000 ≤ x ∧ x ≤ 1000000000000000) (hl : n ≤ 1000) :
    Calls Try.prog 21 #[.slice A n cap] w fun e w' => e = .returned (.int .i64 xs.sum) ∧ w = w' := by
  have HR := Lib.hid (fun i (hi : i < n) => hr.at_ i (by omega))
  have HN := Lib.hid hn
  have HB := Lib.hid hb
  clear hr hn hb
  go_enter Try.func21, Try.ntmps21
  go_wp2
  go_loop [3, 8] (fun s i => ∃ k : Nat, k ≤ n ∧ i = .int .i64 k ∧ s = .int .i64 (xs.take k).sum) (fun _ i => n - (intOf i).toNat)
  case atStart => exact ⟨0, Nat.zero_le _, rfl, by simp⟩
  case round =>
    obtain ⟨k, hk, rfl, rfl⟩ := hrel
    by_cases hlt : k < n
    · obtain ⟨x, hA, hxb, c⟩ := HR.out k hlt
      subst hA
      have s := HN.out
      obtain ⟨b1, b2⟩ := sum_take_bd xs k HB.out (by omega)
      obtain ⟨b3, b4⟩ := getD_bd xs k 1000000000000000 (by omega) HB.out
      have HS := Lib.hid (sum_take_succ xs k (by omega))
      clear s
      generalize xs.getD k 0 = y at *
      generalize (xs.take k).sum = t at *
      go_wp2
      go_round
      case rel => exact ⟨k + 1, by omega, by go_num, by rw [HS.out]⟩
      case measure => simp [intOf]; omega
    · have e : k = n := by omega
      subst e
      go_wp2
      go_ret
      exact ⟨ret_i (by rw [List.take_of_length_le (by rw [HN.out]; omega)]), rfl⟩

theorem own_cap {w : World} {base s n c : Nat} {T : TypeId} {A : Option Addr} {vs : List Value} (h : w.ownsRow base T s (.slice A n c) n vs) : c ≤ maxLen := by
  obtain ⟨_, h | ⟨g, cap, cur, hv, _, _, _, h2, _⟩⟩ := h
  · obtain ⟨hv, _⟩ := h; first | (injection hv with _ _ h3; unfold maxLen; omega) | (unfold maxLen; simp at hv; omega)
  · injection hv with _ _ h3; omega

set_option maxRecDepth 100000 in
set_option maxHeartbeats 6400000 in
theorem topStock_walk (w : World) (A : Option Addr) (len cap : Nat) (xs : List Pr) (hp : IsPr w A len cap xs) :
    Calls Try.prog 4 #[.slice A len cap] w fun e w' => e = .returned (.bool true) ∧ Below w.heap.size w w' := by
  have hpi := hp.pi
  have hlen := hp.length
  have hcap := hp.le
  have hmax := hp.max
  clear hp
  have HP := Lib.hid (fun w' (h : Mor w w') => hpi.mor h)
  have HL := Lib.hid hlen
  go_enter Try.func4, Try.ntmps4
  go_wp2_with fail
  refine (topbegun_any _).mono ?_
  rintro e w1 ⟨rfl, hm1⟩
  have HM1 := Lib.hid hm1
  clear hm1 hpi
  go_wp2_with fail
  by_cases hc : fifoc xs = 0
  · obtain ⟨hc1, s, hs⟩ := fifoc_zero hc
    rw [hlen] at hs
    refine (fifo_ok A len cap xs s _ (HP.out _ HM1.out) hlen hc1 hs).mono ?_
    rintro e w2 ⟨u, v, rfl, hm2, hu, hv⟩
    obtain ⟨UA, uc, rfl, huc, -, hU0⟩ := own_shape hu
    obtain ⟨VA, vc, rfl, hvc, -, hV0⟩ := own_shape hv
    have hvm := own_cap hv
    have HM2 := Lib.hid (HM1.out.trans' hm2)
    have HU := Lib.hid (fun w' (h : Mor w2 w') => (own_ri hu).mor h)
    have HV := Lib.hid (own_pl hv)
    clear hm2
    go_wp2_with fail
    refine (topplain_any _).mono ?_
    rintro e w3 ⟨g3, rfl, hq3, hm3⟩
    have HM3 := Lib.hid (HM2.out.trans' hm3)
    have HM23 := Lib.hid hm3
    have HQ3 := Lib.hid hq3
    clear hq3 hm3
    -- the loop
    have hX4 := Bk.new w3 41 #[.slice (some ⟨g3, 0, none⟩) 6 6, .slice none 0 0, .int .i64 (-1)]
    have hM34 := (Mor.refl w3).alloc (o := .cells #[.slice (some ⟨g3, 0, none⟩) 6 6, .slice none 0 0, .int .i64 (-1)] 41)
    obtain ⟨bX, hbX⟩ : ∃ g, g = w3.heap.size := ⟨_, rfl⟩
    go_wp2_with fail
    rw [← hbX] at hX4 ⊢
    have hwX : w3.heap.size ≤ bX := by omega
    clear hbX
    generalize w3.alloc (.cells #[.slice (some ⟨g3, 0, none⟩) 6 6, .slice none 0 0, .int .i64 (-1)] 41) = w4 at *
    have hok := (mvc_iff xs).1 hc1
    have hF := fifoS_ok hok.2 (by omega) hs
    have hng := fifoS_len hok.2 (by omega) hs
    have l40 : len ≤ 40 := by rw [← HL.out]; exact hok.1
    have hul : s.2.length ≤ 40 := by
      rw [hng]
      have key : ∀ k, negs xs k ≤ k := by
        intro k
        induction k with
        | zero => exact Nat.le_refl _
        | succ k ih => show negs xs k + (if (ge xs k).1 < 0 then 1 else 0) ≤ k + 1; split <;> omega
      have := key len
      omega
    have HF := Lib.hid hF
    have HOk := Lib.hid hok.2
    have HNn := Lib.hid (fun x (hx : x ∈ s.2) => hF.nn x hx)
    have HNgl := Lib.hid hng
    have HBo := Lib.hid (outs_bd hok.2 (by omega) l40 hF)
    clear hng hok hF hs hc hc1
    go_loopw [5, 7, 39] (fun e kk i wr => ∃ (k : Nat) (A' : Option Addr) (c' : Nat) (X' : Option Addr) (m' k' : Nat), k ≤ len ∧ i = .int .i64 k ∧ kk = .int .i64 (negs xs k : Nat) ∧ e = .int .i64 0 ∧ Hid (Bk wr bX 41 #[.slice A' 6 c', .slice X' m' k', .int .i64 (-1)] ∧ Hld wr (some ⟨g3, 0, none⟩) 6 6 none 0 0 topB A' c' X' m' k' (stb xs s.2 k) ∧ StI xs s.2 k ∧ Mor w3 wr)) (fun _ _ i _ => len - (intOf i).toNat)
    case atStart => exact ⟨0, _, _, _, _, _, Nat.zero_le _, rfl, rfl, rfl, Lib.hid ⟨hX4, Hld.start, StI.start _ _, hM34⟩⟩
    case round =>
      clear hX4 hM34
      obtain ⟨k, A', c', X', m', k', hk, rfl, rfl, rfl, HR⟩ := hrel
      by_cases hlt : k < len
      · have hki : (k : Int) < (len : Int) := by omega
        have hk0 : (0 : Int) ≤ (k : Int) := by omega
        have hkc : (k : Int) < (cap : Int) := by omega
        have HMr := Lib.hid HR.out.2.2.2
        have HSi := Lib.hid HR.out.2.2.1
        obtain ⟨x, hA, hxb, c0, c1⟩ := (HP.out _ (HM3.out.trans' HMr.out)).at_ k (by rw [HL.out]; exact hlt)
        subst hA
        have hom := HOk.out k (by rw [HL.out]; exact hlt)
        have HOm := Lib.hid hom
        have hnlt : (ge xs k).1 < 0 → negs xs k < s.2.length := fun h => by rw [HNgl.out]; exact negs_lt hlt h
        have HNg0 : negs xs (k + 1) = negs xs k + if (ge xs k).1 < 0 then 1 else 0 := rfl
        have HBr := Lib.hid (fun w' (h : Mor wr w') => HR.out.1.mor h)
        have HHr := Lib.hid (fun w' (h : Mor wr w') => HR.out.2.1.mor h)
        have hstb : stb xs s.2 (k + 1) = if sta xs s.2 k = 0 then stb xs s.2 k else postb (stb xs s.2 k) ⟨kyB k, k, stl xs s.2 k⟩ := rfl
        obtain ⟨C, hC⟩ : ∃ C, (ge xs k).1 = C := ⟨_, rfl⟩
        obtain ⟨T, hT⟩ : ∃ T, (ge xs k).2 = T := ⟨_, rfl⟩
        have hTb : 0 ≤ T ∧ T ≤ 1000000000000 := by rcases hom with h | h <;> omega
        obtain ⟨hT0, hT1⟩ := hTb
        have c0' : wr.cell? (x.add (k * 2)) = some (.int .i64 C) := by rw [← hC]; exact c0
        have c1' : wr.cell? ⟨(x.add (k * 2)).block, (x.add (k * 2)).off + 1, none⟩ = some (.int .i64 T) := by rw [← hT]; exact c1
        clear c0 c1 HR hom
        by_cases hn : C < 0
        · have hT0' : T = 0 := by rcases HOm.out with h | h <;> omega
          have hnlt := hnlt (by omega)
          obtain ⟨y, hUA, hyb, cu⟩ := (HU.out _ (HM23.out.trans' HMr.out)).at_ (negs xs k) hnlt
          subst hUA
          obtain ⟨O, hO⟩ : ∃ O, s.2.getD (negs xs k) 0 = O := ⟨_, rfl⟩
          rw [hO] at cu
          have hO0 : 0 ≤ O := by rw [← hO]; exact HNn.out _ (getD_mem s.2 _ hnlt)
          have hO9 : O ≤ 40000000000000 := by rw [← hO]; exact (HBo.out.1 _ (getD_mem s.2 _ hnlt)).2
          have HSv := Lib.hid (show sta xs s.2 k = O by unfold sta; rw [if_pos (by omega), hO])
          have HStl := Lib.hid (show stl xs s.2 k = [(s50, O), (t15, -O)] by unfold stl; rw [if_pos (by omega), HSv.out])
          have HNg := Lib.hid (show negs xs (k + 1) = negs xs k + 1 by rw [HNg0, if_pos (by omega)])
          rw [HSv.out] at hstb
          have hstb0 : O = 0 → stb xs s.2 (k + 1) = stb xs s.2 k := fun h => by rw [hstb, if_pos h]
          have hstb1 : O ≠ 0 → stb xs s.2 (k + 1) = postb (stb xs s.2 k) ⟨kyB k, k, stl xs s.2 k⟩ := fun h => by rw [hstb, if_neg h]
          subst hT0'
          have hng2 : (negs xs k : Int) < (s.2.length : Int) := by omega
          have hng3 : ((negs xs k : Nat) : Int) ≠ ((s.2.length : Nat) : Int) := by omega
          have hngb : (((negs xs k : Nat) : Int) == ((s.2.length : Nat) : Int)) = false := by simpa using hng3
          have hngN : ¬ negs xs k = s.2.length := by omega
          have hng0 : (0 : Int) ≤ ((negs xs k : Nat) : Int) := by omega
          have HMv := Lib.hid (fun w => moved_any k k 0 t15 s10 w (by omega) (by omega) (by omega))
          clear hstb HNg0 hO
          have HMw := Lib.hid (fun w => moved_any k k O s50 t15 w (by omega) (by omega) (by omega))
          have HSt0 := Lib.hid hstb0
          have HSt1 := Lib.hid hstb1
          have hOm40 : k < 40 := by omega
          have HNlt := Lib.hid hnlt
          clear hstb0 hstb1 hnlt
          have hbM := Bk.new wr 44 #[.int .i64 C, .int .i64 0]
          have hmM := (Mor.refl wr).alloc (o := .cells #[.int .i64 C, .int .i64 0] 44)
          go_wp2_with fail
          obtain ⟨bM, hgM⟩ : ∃ g, g = wr.heap.size := ⟨_, rfl⟩
          rw [← hgM] at hbM ⊢
          clear hgM
          generalize wr.alloc (.cells #[.int .i64 C, .int .i64 0] 44) = wm at *
          refine (HMv.out _).mono ?_
          rintro e w5 ⟨gL0, rfl, hln5, hgl5, hm5⟩
          have HM5 := Lib.hid (hmM.trans' hm5)
          have hbM5 := hbM.mor hm5
          have m0 := hbM5.cell 0
          have ml := hbM5.lt
          have hbx5 := HBr.out _ HM5.out
          have b0 := hbx5.cell 0
          have b1 := hbx5.cell 1
          have b2 := hbx5.cell 2
          have bl := hbx5.lt
          simp at m0 b0 b1 b2
          have hE6 := Bk.new w5 47 #[.string (kyB k), .int .i64 k, .slice (some ⟨gL0, 0, none⟩) 2 2]
          have hM56 := (Mor.refl w5).alloc (o := .cells #[.string (kyB k), .int .i64 k, .slice (some ⟨gL0, 0, none⟩) 2 2] 47)
          have hyl : y.block < w5.heap.size := Nat.lt_of_lt_of_le hyb HM5.out.below.size
          have hcu5 := (HM5.out.below.cell (p := y.add (negs xs k)) (by rw [addb]; exact hyb)).trans cu
          have hylx : (y.add (negs xs k)).block < w5.heap.size := by rw [addb]; exact hyl
          clear cu hbM hmM hm5 hbM5 hln5 hgl5
          go_wp2_with fail
          obtain ⟨bE, hgE⟩ : ∃ g, g = w5.heap.size := ⟨_, rfl⟩
          rw [← hgE] at hE6 ⊢
          have hXE : bX ≠ bE := by have := hbx5.lt; omega
          have hYE : (y.add (negs xs k)).block ≠ bE := by omega
          generalize w5.alloc (.cells #[.string (kyB k), .int .i64 k, .slice (some ⟨gL0, 0, none⟩) 2 2] 47) = we at *
          refine (HMw.out _).mono ?_
          rintro e w6 ⟨gL, rfl, hln6, hgl6, hm6⟩
          have hE7 := hE6.mor hm6
          have hm56 := hM56.trans' hm6
          have hLE : gL ≠ bE := by have := hE6.lt; omega
          have hcu6 := (hm56.below.cell (p := y.add (negs xs k)) hylx).trans hcu5
          have hwE : w3.heap.size ≤ bE := by have := (HMr.out.trans' HM5.out).below.size; omega
          have e0 := hE7.cell 0
          have e1 := hE7.cell 1
          have e2 := hE7.cell 2
          have f0 := hE7.frozen 0
          have f1 := hE7.frozen 1
          have f2 := hE7.frozen 2
          have el := hE7.lt
          simp at e0 e1 e2
          have hlt6 : (y.add (negs xs k)).block < w6.heap.size := Nat.lt_of_lt_of_le hylx hm56.below.size
          have cuz := (cell_set3 (w := w6) (g := bE) (a := .string (kyB k)) (b := .int .i64 k) (c := .slice (some ⟨gL, 0, none⟩) 2 2) hYE).trans hcu6
          have hEz := ((hE7.set_ 0 (.string (kyB k))).set_ 1 (.int .i64 k)).set_ 2 (.slice (some ⟨gL, 0, none⟩) 2 2)
          have hLnz := ((hln6.set_other bE 0 (.string (kyB k)) hLE).set_other bE 1 (.int .i64 k) hLE).set_other bE 2 (.slice (some ⟨gL, 0, none⟩) 2 2) hLE
          have hbx6 := hbx5.mor hm56
          have hxl6 := hbx6.lt
          have hBz := ((hbx6.set_other bE 0 (.string (kyB k)) hXE).set_other bE 1 (.int .i64 k) hXE).set_other bE 2 (.slice (some ⟨gL, 0, none⟩) 2 2) hXE
          have HBz := Lib.hid hBz
          have HLn := Lib.hid hLnz
          have hwrE : wr.heap.size ≤ bE := by have := HM5.out.below.size; omega
          have HLd := Lib.hid (HHr.out _ ((((HM5.out.trans' hm56).setC (i := 0) (u := .string (kyB k)) hwrE).setC (i := 1) (u := .int .i64 k) hwrE).setC (i := 2) (u := .slice (some ⟨gL, 0, none⟩) 2 2) hwrE))
          have HMz := Lib.hid ((((HMr.out.trans' (HM5.out.trans' hm56)).setC (i := 0) (u := .string (kyB k)) hwE).setC (i := 1) (u := .int .i64 k) hwE).setC (i := 2) (u := .slice (some ⟨gL, 0, none⟩) 2 2) hwE)
          have l1 := hLnz.cell 1
          have z2 := hEz.cell 2
          have y0 := hBz.cell 0
          have y1 := hBz.cell 1
          have y2 := hBz.cell 2
          simp [flat, pc] at l1 z2 y0 y1 y2
          clear hgE hE6 hM56 hm6 hm56 hcu6 hcu5 hgl6 hwrE hbx5 hbx6 hln6 hLnz hBz hEz hE7 hylx hyl b0 b1 b2 bl
          by_cases hbig : 1000000000000 < O
          · have HMd := Lib.hid (HM3.out.trans' HMz.out)
            go_wp2_with fail
            go_ret
            exact ⟨rfl, HMd.out.below⟩
          · have HStp := Lib.hid (HSi.out.step (by omega) HOm.out (fun _ => HNlt.out) (by rw [HSv.out]; exact hO0) (by rw [HSv.out]; omega))
            have hbig2 : O ≤ 1000000000000 := by omega
            clear hbig
            by_cases hv0 : O = 0
            · have HS0 := Lib.hid (HSt0.out hv0)
              have hT9 := hv0.symm
              subst hT9
              clear hv0
              go_wp2_with fail
              go_roundw
              case rel => exact ⟨k + 1, A', c', X', m', k', by omega, by go_num, by rw [HNg.out]; go_num, rfl, Lib.hid ⟨HBz.out, by rw [HS0.out]; exact HLd.out, HStp.out.1, HMz.out⟩⟩
              case measure => simp [intOf]; omega
            · have hvb : (O == 0) = false := by simpa using hv0
              have b0 := y0
              have b1 := y1
              have b2 := y2
              have bl : bX < w6.heap.size := hxl6
              clear y0 y1 y2 hxl6
              go_wp2_with fail
              generalize ((w6.setCell ⟨bE, 0, none⟩ (.string (kyB k))).setCell ⟨bE, 1, none⟩ (.int .i64 k)).setCell ⟨bE, 2, none⟩ (.slice (some ⟨gL, 0, none⟩) 2 2) = wz at *
              have hpc := HStp.out.2 (by rw [HSv.out]; exact hv0)
              have hbq := HLd.out.bq HQ3.out HMz.out
              have hsj : (stb xs s.2 k).shut = -1 := HSi.out.led.sh
              have haj := hbq.ac.length
              have hst1 := HSt1.out hv0
              have HLq := Lib.hid (fun w' (h : Mor wz w') => bk_two (HLn.out.mor h) (by unfold maxLen; show (2 : Nat) ≤ _; omega) (by unfold maxLen; show (2 : Nat) ≤ _; omega))
              have HPo := Lib.hid (show Calls Try.prog 19 #[bv A' 6 c' X' m' k' (-1), .agg #[.string (kyB k), .int .i64 k, .slice (some ⟨gL, 0, none⟩) 2 2]] wz (fun e w'' => ∃ A c X m k9, e = .returned (.tuple #[bv A 6 c X m k9 (-1), .int .i64 0]) ∧ OwnB w'' wz.heap.size (.slice A 6 c) (.slice X m k9) 6 m (stb xs s.2 (k + 1)) ∧ Mor wz w'') by
                have h3 := post_yes A' 6 c' X' m' k' (stb xs s.2 k) ⟨kyB k, k, [(s50, O), (t15, -O)]⟩ (some ⟨gL, 0, none⟩) 2 2 wz hbq (HLq.out _ (Mor.refl _)) (kyB_max k) (by rw [← HStl.out]; exact hpc)
                rw [hsj] at h3
                refine h3.mono fun e w'' h => ?_
                obtain ⟨A9, c9, X9, m9, k9, he, ho, hm9⟩ := postYes_own h (n := 6) (by rw [(post_ac _ _).1]; exact haj)
                rw [(post_ac _ _).2, hsj] at he
                exact ⟨A9, c9, X9, m9, k9, he, by rw [hst1, HStl.out]; exact ho, hm9⟩)
              clear hpc hbq hsj haj hst1
              refine HPo.out.mono ?_
              rintro e w9 ⟨A9, c9, X9, m9, k9, rfl, ho9, hm9⟩
              have HW9 := Lib.hid (HBz.out.mor hm9)
              have HO9 := Lib.hid ho9
              have HM9 := Lib.hid (HMz.out.trans' hm9)
              clear hm9 ho9 HPo b0 b1 b2 bl
              have b0 := HW9.out.cell 0
              have b1 := HW9.out.cell 1
              have b2 := HW9.out.cell 2
              have f0 := HW9.out.frozen 0
              have f1 := HW9.out.frozen 1
              have f2 := HW9.out.frozen 2
              have bl := HW9.out.lt
              simp at b0 b1 b2
              go_wp2_with fail
              go_roundw
              case rel => exact ⟨k + 1, A9, c9, X9, m9, k9, by omega, by go_num, by rw [HNg.out]; go_num, rfl, Lib.hid ⟨by have := ((HW9.out.set_ 0 (.slice A9 6 c9)).set_ 1 (.slice X9 m9 k9)).set_ 2 (.int .i64 (-1)); simpa using this, (Hld.own HO9.out).store HW9.out, HStp.out.1, ((HM9.out.setC hwX).setC hwX).setC hwX⟩⟩
              case measure => simp [intOf]; omega
        · have hC0 : 0 < C := by rcases HOm.out with h | h <;> omega
          have HSv := Lib.hid (show sta xs s.2 k = T by unfold sta; rw [if_neg (by omega), hT])
          have HStl := Lib.hid (show stl xs s.2 k = [(t15, T), (s10, -T)] by unfold stl; rw [if_neg (by omega), HSv.out])
          have HNg := Lib.hid (show negs xs (k + 1) = negs xs k by rw [HNg0, if_neg (by omega)]; rfl)
          rw [HSv.out] at hstb
          have hstb0 : T = 0 → stb xs s.2 (k + 1) = stb xs s.2 k := fun h => by rw [hstb, if_pos h]
          have hstb1 : T ≠ 0 → stb xs s.2 (k + 1) = postb (stb xs s.2 k) ⟨kyB k, k, stl xs s.2 k⟩ := fun h => by rw [hstb, if_neg h]
          have HMv := Lib.hid (fun w => moved_any k k T t15 s10 w (by omega) (by omega) (by omega))
          have HStp := Lib.hid (HSi.out.step (by omega) HOm.out (fun h => absurd h (by omega)) (by rw [HSv.out]; exact hT0) (by rw [HSv.out]; exact hT1))
          have HSt0 := Lib.hid hstb0
          have HSt1 := Lib.hid hstb1
          clear hstb HNg0 hstb0 hstb1
          have hbM := Bk.new wr 44 #[.int .i64 C, .int .i64 T]
          have hmM := (Mor.refl wr).alloc (o := .cells #[.int .i64 C, .int .i64 T] 44)
          go_wp2_with fail
          obtain ⟨bM, hgM⟩ : ∃ g, g = wr.heap.size := ⟨_, rfl⟩
          rw [← hgM] at hbM ⊢
          clear hgM
          generalize wr.alloc (.cells #[.int .i64 C, .int .i64 T] 44) = wm at *
          refine (HMv.out _).mono ?_
          rintro e w5 ⟨gL, rfl, hln5, hgl5, hm5⟩
          have HM5 := Lib.hid (hmM.trans' hm5)
          have hbM5 := hbM.mor hm5
          have m0 := hbM5.cell 0
          have ml := hbM5.lt
          have hbx5 := HBr.out _ HM5.out
          have b0 := hbx5.cell 0
          have b1 := hbx5.cell 1
          have b2 := hbx5.cell 2
          have bl := hbx5.lt
          simp at m0 b0 b1 b2
          have l1 := hln5.cell 1
          have ll := hln5.lt
          simp [flat, pc] at l1
          have hm56 := (Mor.refl w5).alloc (o := .cells #[.string (kyB k), .int .i64 k, .slice (some ⟨gL, 0, none⟩) 2 2] 47)
          have HBz := Lib.hid (hbx5.mor hm56)
          have HLd := Lib.hid (HHr.out _ (HM5.out.trans' hm56))
          have HMz := Lib.hid (HMr.out.trans' (HM5.out.trans' hm56))
          have HLn := Lib.hid (hln5.mor hm56)
          clear hbM hmM hm5 hbM5 hbx5 hln5 hm56
          have hCn : ¬ C < 0 := by omega
          by_cases hv0 : T = 0
          · have hst0 := HSt0.out hv0
            have HS0 := Lib.hid hst0
            have hT9 := hv0.symm
            subst hT9
            clear hst0 hv0
            go_wp2_with fail
            go_roundw
            case rel => exact ⟨k + 1, A', c', X', m', k', by omega, by go_num, by rw [HNg.out], rfl, Lib.hid ⟨HBz.out, by rw [HS0.out]; exact HLd.out, HStp.out.1, HMz.out⟩⟩
            case measure => simp [intOf]; omega
          · have hvb : (T == 0) = false := by simpa using hv0
            go_wp2_with fail
            generalize w5.alloc (.cells #[.string (kyB k), .int .i64 k, .slice (some ⟨gL, 0, none⟩) 2 2] 47) = wz at *
            have hpc := HStp.out.2 (by rw [HSv.out]; exact hv0)
            have hbq := HLd.out.bq HQ3.out HMz.out
            have hsj : (stb xs s.2 k).shut = -1 := HSi.out.led.sh
            have haj := hbq.ac.length
            have hst1 := HSt1.out hv0
            have HLq := Lib.hid (fun w' (h : Mor wz w') => bk_two (HLn.out.mor h) (by unfold maxLen; show (2 : Nat) ≤ _; omega) (by unfold maxLen; show (2 : Nat) ≤ _; omega))
            have HPo := Lib.hid (show Calls Try.prog 19 #[bv A' 6 c' X' m' k' (-1), .agg #[.string (kyB k), .int .i64 k, .slice (some ⟨gL, 0, none⟩) 2 2]] wz (fun e w'' => ∃ A c X m k9, e = .returned (.tuple #[bv A 6 c X m k9 (-1), .int .i64 0]) ∧ OwnB w'' wz.heap.size (.slice A 6 c) (.slice X m k9) 6 m (stb xs s.2 (k + 1)) ∧ Mor wz w'') by
              have h3 := post_yes A' 6 c' X' m' k' (stb xs s.2 k) ⟨kyB k, k, [(t15, T), (s10, -T)]⟩ (some ⟨gL, 0, none⟩) 2 2 wz hbq (HLq.out _ (Mor.refl _)) (kyB_max k) (by rw [← HStl.out]; exact hpc)
              rw [hsj] at h3
              refine h3.mono fun e w'' h => ?_
              obtain ⟨A9, c9, X9, m9, k9, he, ho, hm9⟩ := postYes_own h (n := 6) (by rw [(post_ac _ _).1]; exact haj)
              rw [(post_ac _ _).2, hsj] at he
              exact ⟨A9, c9, X9, m9, k9, he, by rw [hst1, HStl.out]; exact ho, hm9⟩)
            clear hpc hbq hsj haj hst1
            refine HPo.out.mono ?_
            rintro e w9 ⟨A9, c9, X9, m9, k9, rfl, ho9, hm9⟩
            have HW9 := Lib.hid (HBz.out.mor hm9)
            have HO9 := Lib.hid ho9
            have HM9 := Lib.hid (HMz.out.trans' hm9)
            clear hm9 ho9 HPo b0 b1 b2 bl
            have b0 := HW9.out.cell 0
            have b1 := HW9.out.cell 1
            have b2 := HW9.out.cell 2
            have f0 := HW9.out.frozen 0
            have f1 := HW9.out.frozen 1
            have f2 := HW9.out.frozen 2
            have bl := HW9.out.lt
            simp at b0 b1 b2
            go_wp2_with fail
            go_roundw
            case rel => exact ⟨k + 1, A9, c9, X9, m9, k9, by omega, by go_num, by rw [HNg.out], rfl, Lib.hid ⟨by have := ((HW9.out.set_ 0 (.slice A9 6 c9)).set_ 1 (.slice X9 m9 k9)).set_ 2 (.int .i64 (-1)); simpa using this, (Hld.own HO9.out).store HW9.out, HStp.out.1, ((HM9.out.setC hwX).setC hwX).setC hwX⟩⟩
            case measure => simp [intOf]; omega
      · have ek : k = len := by omega
        subst ek
        obtain ⟨wL, rfl⟩ : ∃ wL, wL = wr := ⟨_, rfl⟩
        obtain ⟨hbx, hld, hsi, hmr⟩ := HR.out
        have hq := hld.bq HQ3.out hmr
        obtain ⟨q1, q2⟩ := hsi.led.bal top_has.2.1 (d := 99) (by omega) (by omega)
        obtain ⟨q3, q4⟩ := hsi.led.bal top_has.2.2.2.2 (d := 99) (by omega) (by omega)
        obtain ⟨-, g1, g2, g3, g4, g5⟩ := HBo.out
        rw [hsi.a15, ← HNgl.out, List.take_length, g5] at q2
        rw [hsi.a50, ← HNgl.out, List.take_length] at q4
        have HB15 := Lib.hid (fun w' (h : Mor wL w') => show Calls Try.prog 20 #[bv A' 6 c' X' m' k' (-1), .string t15, .int .i64 99] w' (fun e w'' => e = .returned (.tuple #[.int .i64 (cst s.1), .int .i64 0]) ∧ Mor w' w'') from by
          have h2 := bal_any A' 6 c' X' m' k' _ t15 99 w' (hq.mor h)
          rw [hsi.led.sh, q1, q2] at h2
          exact h2)
        have HB50 := Lib.hid (fun w' (h : Mor wL w') => show Calls Try.prog 20 #[bv A' 6 c' X' m' k' (-1), .string s50, .int .i64 99] w' (fun e w'' => e = .returned (.tuple #[.int .i64 s.2.sum, .int .i64 0]) ∧ Mor w' w'') from by
          have h2 := bal_any A' 6 c' X' m' k' _ s50 99 w' (hq.mor h)
          rw [hsi.led.sh, q3, q4] at h2
          exact h2)
        have HSo := Lib.hid (fun w' (h : Mor w2 w') => tsum_ri UA s.2.length uc s.2 w' (HU.out _ h) rfl (fun o ho => by have := HBo.out.1 o ho; omega) (by omega))
        have HBX := Lib.hid (fun w' (h : Mor wL w') => hbx.mor h)
        have HMl := Lib.hid hmr
        have HVl := Lib.hid (fun w' (h : Mor w2 w') => HV.out.mor h)
        clear hbx hld hsi hmr hq q1 q2 q3 q4 HR
        have HOkL := Lib.hid HF.out.ok
        have hvl : s.1.length ≤ vc := hvc
        have hv63 : vc ≤ maxLen := hvm
        unfold maxLen at hv63
        go_wp2_with fail
        go_loopw [11, 87] (fun l i wr => ∃ q : Nat, q ≤ s.1.length ∧ i = .int .i64 q ∧ l = .int .i64 (cst (s.1.take q)) ∧ Hid (Mor wL wr)) (fun _ i _ => s.1.length - (intOf i).toNat)
        case atStart => exact ⟨0, Nat.zero_le _, rfl, by rw [List.take_zero]; rfl, Lib.hid (Mor.refl _)⟩
        case round =>
          obtain ⟨q, hq, rfl, rfl, HQ⟩ := hrel
          by_cases hlt : q < s.1.length
          · have hqi : (q : Int) < (s.1.length : Int) := by omega
            have hq0 : (0 : Int) ≤ (q : Int) := by omega
            have hqc : (q : Int) < (vc : Int) := by omega
            obtain ⟨z, hVA, hzb, d0, d1⟩ := (HVl.out _ (HM23.out.trans' (HMl.out.trans' HQ.out))).at_ q hlt
            subst hVA
            have HCs := Lib.hid (cst_take_succ s.1 q hlt)
            have hb1 := cst_take_bd HOkL.out q
            have hb2 := cst_take_bd HOkL.out (q + 1)
            rw [HCs.out] at hb2
            obtain ⟨hb10, hb11⟩ := hb1
            obtain ⟨hb20, hb21⟩ := hb2
            have d0' : wr.cell? (z.add (q * 2)) = some (.int .i64 (ge s.1 q).1) := d0
            have d1' : wr.cell? ⟨(z.add (q * 2)).block, (z.add (q * 2)).off + 1, none⟩ = some (.int .i64 (ge s.1 q).2) := d1
            clear d0 d1
            generalize (ge s.1 q).2 = T at *
            generalize (ge s.1 q).1 = C at *
            generalize cst (s.1.take q) = Y at *
            go_wp2_with fail
            go_roundw
            case rel => exact ⟨q + 1, by omega, by go_num, by rw [HCs.out], Lib.hid HQ.out.alloc⟩
            case measure => simp [intOf]; omega
          · have eq : q = s.1.length := by omega
            subst eq
            rw [List.take_length]
            have hbx := HBX.out _ HQ.out
            have b0 := hbx.cell 0
            have b1 := hbx.cell 1
            have b2 := hbx.cell 2
            have bl := hbx.lt
            simp at b0 b1 b2
            clear hbx
            go_wp2_with fail
            refine (HB15.out _ HQ.out).mono ?_
            rintro e w7 ⟨rfl, hm7⟩
            have HM7 := Lib.hid (HQ.out.trans' hm7)
            have hbx := HBX.out _ HM7.out
            clear b0 b1 b2 bl hm7
            have b0 := hbx.cell 0
            have b1 := hbx.cell 1
            have b2 := hbx.cell 2
            have bl := hbx.lt
            simp at b0 b1 b2
            clear hbx
            go_wp2_with fail
            refine (HB50.out _ HM7.out).mono ?_
            rintro e w8 ⟨rfl, hm8⟩
            have HM8 := Lib.hid (HM7.out.trans' hm8)
            clear hm8 b0 b1 b2 bl
            go_wp2_with fail
            refine (HSo.out _ (HM23.out.trans' (HMl.out.trans' HM8.out))).mono ?_
            rintro e w9 ⟨rfl, rfl⟩
            go_wp2_with fail
            go_ret
            exact ⟨ret_b (by first | rfl | simp), (HM3.out.trans' (HMl.out.trans' HM8.out)).below⟩
  · refine (fifo_no A len cap xs _ (HP.out _ HM1.out) hlen (Nat.le_trans hcap hmax) hc).mono ?_
    rintro e w2 ⟨rfl, hm2⟩
    have hcb : (fifoc xs != 0) = true := by simpa using hc
    have HM2 := Lib.hid (HM1.out.trans' hm2)
    generalize fifoc xs = r at *
    clear hm2
    go_wp2_with fail
    go_ret
    exact ⟨rfl, HM2.out.below⟩

end Go.Proofs.Ytdpphneebikdpaa.topStock
