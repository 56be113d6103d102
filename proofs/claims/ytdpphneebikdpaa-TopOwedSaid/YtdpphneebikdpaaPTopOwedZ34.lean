/- The walk of taltop.TopOwed. -/
import Derived.Test.YtdpphneebikdpaaPTopOwedZ1
import Derived.Test.YtdpphneebikdpaaPTopOwedZ2
import Derived.Test.YtdpphneebikdpaaPTopOwedZ3
import Derived.Test.YtdpphneebikdpaaPTopOwedZ4
import Derived.Test.YtdpphneebikdpaaPTopOwedZ5
import Derived.Test.YtdpphneebikdpaaPTopOwedZ6
import Derived.Test.YtdpphneebikdpaaPTopOwedZ7
import Derived.Test.YtdpphneebikdpaaPTopOwedZ8
import Derived.Test.YtdpphneebikdpaaPTopOwedZ9
import Derived.Test.YtdpphneebikdpaaPTopOwedZ10
import Derived.Test.YtdpphneebikdpaaPTopOwedZ11
import Derived.Test.YtdpphneebikdpaaPTopOwedZ12
import Derived.Test.YtdpphneebikdpaaPTopOwedZ13
import Derived.Test.YtdpphneebikdpaaPTopOwedZ14
import Derived.Test.YtdpphneebikdpaaPTopOwedZ15
import Derived.Test.YtdpphneebikdpaaPTopOwedZ16
import Derived.Test.YtdpphneebikdpaaPTopOwedZ17
import Derived.Test.YtdpphneebikdpaaPTopOwedZ18
import Derived.Test.YtdpphneebikdpaaPTopOwedZ19
import Derived.Test.YtdpphneebikdpaaPTopOwedZ20
import Derived.Test.YtdpphneebikdpaaPTopOwedZ21
import Derived.Test.YtdpphneebikdpaaPTopOwedZ22
import Derived.Test.YtdpphneebikdpaaPTopOwedZ23
import Derived.Test.YtdpphneebikdpaaPTopOwedZ24
import Derived.Test.YtdpphneebikdpaaPTopOwedZ25
import Derived.Test.YtdpphneebikdpaaPTopOwedZ26
import Derived.Test.YtdpphneebikdpaaPTopOwedZ27
import Derived.Test.YtdpphneebikdpaaPTopOwedZ28
import Derived.Test.YtdpphneebikdpaaPTopOwedZ29
import Derived.Test.YtdpphneebikdpaaPTopOwedZ30
import Derived.Test.YtdpphneebikdpaaPTopOwedZ31
import Derived.Test.YtdpphneebikdpaaPTopOwedZ32
import Derived.Test.YtdpphneebikdpaaPTopOwedZ33
import Derived.Test.YtdpphneebikdpaaRows
import Derived.BigQuiet
import Derived.BigRegion
import Derived.Carry
import Derived.DataElems
import Derived.Deep.DeepCutAuto
import Derived.Deep.LoopGhost
import Derived.Deep.OwnRows
import Derived.Deep.QuietTactic
import Derived.Deep.RegionHeld3
import Derived.Deep.RegionLaw
import Derived.Deep.RegionWith
import Derived.Deep.SlicePairs
import Derived.Deep.Slices
import Derived.Deep.Strs
import Derived.Handy
import Derived.IntWalk
import Derived.Laws.AppendOwn
import Derived.Laws.CopyOwn
import Derived.Laws.CopyRow
import Derived.Laws.Cover1
import Derived.Laws.Externs
import Derived.Laws.IdiomCopy
import Derived.Laws.NewBlocks
import Derived.Lib.AppendZerosOnto
import Derived.Lib.Bytealg
import Derived.Lib.Hide
import Derived.Lib.Overlaps
import Derived.Lib.SliceRun
import Derived.Lib.Walk
import Derived.Maps.Own
import Derived.Maps.OwnSet
import Derived.Maps.Views
import Derived.OpenShut
import Derived.Outline
import Derived.OwnWalk
import Derived.PlainAid
import Derived.ProofKit
import Derived.RegionTactic
import Derived.Shelf.Abstract
import Derived.Shelf.RegionOpenPlain
import Derived.Sort.Walk0
import Derived.StringKeys
import Derived.WalkKit
import Derived.WalkSpells
namespace Go.Proofs.Ytdpphneebikdpaa.topOwed
open Go Go.ChangeShapes Go.WideShapes Go.ChangeAt Go.RowKit Go.PlainAid Stb
set_option linter.unusedVariables false
set_option maxRecDepth 100000

theorem putY_of {w w1 wx : World} {sh : Int} {y : Bok} {e p : Value} (h : PutY w1 wx sh y e p) (hm : Mor w w1) : PutY w wx sh y e p := by
  obtain ⟨g, A, n, c, X, m, k, a, b, d, f, i⟩ := h
  exact ⟨g, A, n, c, X, m, k, a, b, d, f, hm.trans' i⟩

theorem pi_take {w : World} {A : Option Addr} {xs : List Pr} (h : Pi w A xs) (k : Nat) : Pi w A (xs.take k) := by
  rcases h with h | ⟨x, e, hb, hc⟩
  · exact .inl (by rw [h, List.take_nil])
  · refine .inr ⟨x, e, hb, fun i hi => ?_⟩
    rw [List.length_take] at hi
    have h1 : px (xs.take k) i = px xs i := by unfold px; rw [List.getD_eq_getElem?_getD, List.getD_eq_getElem?_getD, List.getElem?_take, if_pos (by omega)]
    have h2 : py (xs.take k) i = py xs i := by unfold py; rw [List.getD_eq_getElem?_getD, List.getD_eq_getElem?_getD, List.getElem?_take, if_pos (by omega)]
    rw [h1, h2]
    exact hc i (by omega)

theorem size_set (w : World) (p : Addr) (u : Value) : (w.setCell p u).heap.size = w.heap.size := by simp [World.setCell]
theorem putS {w : World} {bs : List Obj} {dr B n c m k g : Nat} {A X : Option Addr} {z z' z'' : Value} {y : Bok} (a b c' : Value) (h : OwnB (more w bs dr) B (.slice A n c) (.slice X m k) n m y) (hb : Bk w g 41 #[z, z', z'']) :
    Bk (more (((w.setCell ⟨g, 0, none⟩ a).setCell ⟨g, 1, none⟩ b).setCell ⟨g, 2, none⟩ c') bs dr) g 41 #[a, b, c'] ∧ OwnB (more (((w.setCell ⟨g, 0, none⟩ a).setCell ⟨g, 1, none⟩ b).setCell ⟨g, 2, none⟩ c') bs dr) B (.slice A n c) (.slice X m k) n m y := by
  have hl := hb.lt
  have e : (((more w bs dr).setCell ⟨g, 0, none⟩ a).setCell ⟨g, 1, none⟩ b).setCell ⟨g, 2, none⟩ c' = more (((w.setCell ⟨g, 0, none⟩ a).setCell ⟨g, 1, none⟩ b).setCell ⟨g, 2, none⟩ c') bs dr := by
    rw [setCell_more w bs dr g 0 a hl, setCell_more _ bs dr g 1 b (by rw [size_set]; exact hl), setCell_more _ bs dr g 2 c' (by rw [size_set, size_set]; exact hl)]
  have hbm : Bk (more w bs dr) g 41 #[z, z', z''] := hb.more _ _
  refine ⟨?_, by rw [← e]; exact own3 (a := a) (a' := b) (a'' := c') h hbm⟩
  rw [← e]
  have := ((hbm.set_ 0 a).set_ 1 b).set_ 2 c'
  simpa using this
theorem pi_put {w : World} {bs : List Obj} {dr g : Nat} {A : Option Addr} {xs : List Pr} (a b c' : Value) (h : Pi w A xs) (hA : ∀ x, A = some x → x.block ≠ g) :
    Pi (more (((w.setCell ⟨g, 0, none⟩ a).setCell ⟨g, 1, none⟩ b).setCell ⟨g, 2, none⟩ c') bs dr) A xs := by
  refine Pi.mor (w := ((w.setCell ⟨g, 0, none⟩ a).setCell ⟨g, 1, none⟩ b).setCell ⟨g, 2, none⟩ c') ?_ (Mor.refl _).more
  rcases h with h | ⟨x, e, hb, hc⟩
  · exact .inl h
  · have hx := hA x e
    have key : ∀ q : Addr, q.block = x.block → (((w.setCell ⟨g, 0, none⟩ a).setCell ⟨g, 1, none⟩ b).setCell ⟨g, 2, none⟩ c').cell? q = w.cell? q := fun q hq => by
      rw [World.cell?_setCell_other _ _ _ _ (fun e => by have := congrArg Addr.block e; simp only at this; omega), World.cell?_setCell_other _ _ _ _ (fun e => by have := congrArg Addr.block e; simp only at this; omega), World.cell?_setCell_other _ _ _ _ (fun e => by have := congrArg Addr.block e; simp only at this; omega)]
    refine .inr ⟨x, e, by rw [size_set, size_set, size_set]; exact hb, fun i hi => ?_⟩
    obtain ⟨h1, h2⟩ := hc i hi
    exact ⟨(key _ (by rw [addb])).trans h1, (key _ (by show (x.add (i * 2)).block = _; rw [addb])).trans h2⟩

set_option maxRecDepth 100000 in
set_option maxHeartbeats 6400000 in
theorem topOwed_walk (w : World) (A : Option Addr) (len cap : Nat) (xs : List Pr) (hp : IsPr w A len cap xs) (B : Option Addr) (blen bcap : Nat) (zs : List Int) (hz : IsRow .i64 w B blen bcap zs) :
    Calls Try.prog 6 #[.slice A len cap, .slice B blen bcap] w fun e w' => e = .returned (.bool true) ∧ Below w.heap.size w w' := by
  have hpi := hp.pi
  have hlen := hp.length
  have hcap := hp.le
  have hmax := hp.max
  have hnil := hp.nil
  obtain ⟨hri, hbl, hbc, hbm, -, -⟩ := Ri.of_isRow hz
  generalize zs.take blen = ys at *
  clear hp hz
  have HP := Lib.hid (fun w' (h : Mor w w') => hpi.mor h)
  have HRi := Lib.hid (fun w' (h : Mor w w') => hri.mor h)
  have HL := Lib.hid hlen
  have HBl := Lib.hid hbl
  have hlm : len ≤ maxLen := Nat.le_trans hcap hmax
  have HCk := Lib.hid (fun w' (h : Mor w w') => acheck_any A len cap xs w' (hpi.mor h) hlen hlm)
  obtain ⟨P, hP, hPp, hP30⟩ : ∃ P : Nat, min (len : Int) 30 = (P : Int) ∧ P ≤ len ∧ P ≤ 30 := by
    by_cases h : len ≤ 30
    · exact ⟨len, by omega, Nat.le_refl _, h⟩
    · exact ⟨30, by omega, by omega, Nat.le_refl _⟩
  obtain ⟨Q, hQ, hQp, hQ20⟩ : ∃ Q : Nat, min (blen : Int) 20 = (Q : Int) ∧ Q ≤ blen ∧ Q ≤ 20 := by
    by_cases h : blen ≤ 20
    · exact ⟨blen, by omega, Nat.le_refl _, h⟩
    · exact ⟨20, by omega, by omega, Nat.le_refl _⟩
  have hP0 : (0 : Int) ≤ (P : Int) := by omega
  have hPq : (P : Int) ≤ (cap : Int) := by omega
  have hQ0 : (0 : Int) ≤ (Q : Int) := by omega
  have hQq : (Q : Int) ≤ (bcap : Int) := by omega
  unfold maxLen at hmax hbm hlm
  clear hpi hri
  go_enter Try.func6, Try.ntmps6
  go_wp2_with fail
  refine (topbegun_any _).mono ?_
  rintro e w1 ⟨rfl, hm1⟩
  have HM1 := Lib.hid hm1
  clear hm1
  go_wp2_with fail
  refine (HCk.out _ HM1.out).mono ?_
  rintro e w2 ⟨rfl, hm2⟩
  have HM2 := Lib.hid (HM1.out.trans' hm2)
  clear hm2
  by_cases hc : itc xs = 0
  · rw [hc]
    have hok := (itc_iff xs).1 hc
    go_wp2_with fail
    refine (topplain_any _).mono ?_
    rintro e w3 ⟨g3, rfl, hq3, hm3⟩
    have HM3 := Lib.hid (HM2.out.trans' hm3)
    have HM23 := Lib.hid hm3
    have HQ3 := Lib.hid hq3
    clear hq3 hm3
    -- loop 1
    have hX4 := Bk.new w3 41 #[.slice (some ⟨g3, 0, none⟩) 6 6, .slice none 0 0, .int .i64 (-1)]
    have hM34 := (Mor.refl w3).alloc (o := .cells #[.slice (some ⟨g3, 0, none⟩) 6 6, .slice none 0 0, .int .i64 (-1)] 41)
    obtain ⟨bX, hbX⟩ : ∃ g, g = w3.heap.size := ⟨_, rfl⟩
    go_wp2_with fail
    rw [← hbX] at hX4 ⊢
    have hwX : w3.heap.size ≤ bX := by omega
    clear hbX
    generalize w3.alloc (.cells #[.slice (some ⟨g3, 0, none⟩) 6 6, .slice none 0 0, .int .i64 (-1)] 41) = w4 at *
    have HOk := Lib.hid hok.2
    clear hok hc
    go_loopw [34] (fun i wr => ∃ (k : Nat) (A' : Option Addr) (c' : Nat) (X' : Option Addr) (m' k' : Nat), k ≤ P ∧ i = .int .i64 k ∧ Hid (Bk wr bX 41 #[.slice A' 6 c', .slice X' m' k', .int .i64 (-1)] ∧ Hld wr (some ⟨g3, 0, none⟩) 6 6 none 0 0 topB A' c' X' m' k' (bib xs k) ∧ BiI xs k ∧ Mor w3 wr)) (fun i _ => P - (intOf i).toNat)
    case atStart => exact ⟨0, _, _, _, _, _, Nat.zero_le _, rfl, Lib.hid ⟨hX4, Hld.start, BiI.start _, hM34⟩⟩
    case round =>
      clear hX4 hM34
      obtain ⟨k, A', c', X', m', k', hk, rfl, HR⟩ := hrel
      by_cases hlt : k < P
      · have hki : (k : Int) < (P : Int) := by omega
        have hk0 : (0 : Int) ≤ (k : Int) := by omega
        have hkc : (k : Int) < (cap : Int) := by omega
        have hkl : k < xs.length := by rw [HL.out]; omega
        obtain ⟨hbx, hld, hbi, hmr⟩ := HR.out
        obtain ⟨x, hA, hxb, c0, c1⟩ := (HP.out _ (HM3.out.trans' hmr)).at_ k hkl
        subst hA
        have hop := HOk.out (ge xs k) (by have := ge_some hkl; exact List.mem_of_getElem? this)
        obtain ⟨hst, hpc⟩ := hbi.step (by omega) hkl hop
        have hbq := hld.bq HQ3.out hmr
        have hsj : (bib xs k).shut = -1 := hbi.led.sh
        have haj := hbq.ac.length
        have hst1 : bib xs (k + 1) = postb (bib xs k) ⟨kyB k, (ge xs k).1, itL (ge xs k).2⟩ := rfl
        have c0' : wr.cell? (x.add (k * 2)) = some (.int .i64 (ge xs k).1) := c0
        have c1' : wr.cell? ⟨(x.add (k * 2)).block, (x.add (k * 2)).off + 1, none⟩ = some (.int .i64 (ge xs k).2) := c1
        obtain ⟨o1, o2, o3, o4⟩ := hop
        have HSt := Lib.hid hst
        unfold itL at hpc hst1
        have HPo := Lib.hid (fun gL w4 (hln : Bk w4 gL 50 (flat pc [(t15, (ge xs k).2), (s40, -(ge xs k).2)]).toArray) w' (h4 : Mor w4 w') (h : Mor wr w') => show Calls Try.prog 19 #[bv A' 6 c' X' m' k' (-1), .agg #[.string (kyB k), .int .i64 (ge xs k).1, .slice (some ⟨gL, 0, none⟩) 2 2]] w' (fun e w'' => ∃ A c X m k9, e = .returned (.tuple #[bv A 6 c X m k9 (-1), .int .i64 0]) ∧ OwnB w'' w'.heap.size (.slice A 6 c) (.slice X m k9) 6 m (bib xs (k + 1)) ∧ Mor w' w'') by
          have h3 := post_yes A' 6 c' X' m' k' (bib xs k) ⟨(kyB k), (ge xs k).1, [(t15, (ge xs k).2), (s40, -(ge xs k).2)]⟩ (some ⟨gL, 0, none⟩) 2 2 w' (hbq.mor h) (bk_two (hln.mor h4) (by unfold maxLen; show (2 : Nat) ≤ _; omega) (by unfold maxLen; show (2 : Nat) ≤ _; omega)) (kyB_max _) hpc
          rw [hsj] at h3
          refine h3.mono fun e w'' h => ?_
          obtain ⟨A9, c9, X9, m9, k9, he, ho, hm9⟩ := postYes_own h (n := 6) (by rw [(post_ac _ _).1]; exact haj)
          rw [(post_ac _ _).2, hsj] at he
          exact ⟨A9, c9, X9, m9, k9, he, by first | exact ho | (rw [hst1]; exact ho), hm9⟩)
        have HMv := Lib.hid (fun w => moved_any k (ge xs k).1 (ge xs k).2 t15 s40 w (by omega) (by omega) (by omega))
        clear c0 c1 hpc hst1 hst hbq hsj haj
        generalize (ge xs k).1 = dy at *
        generalize (ge xs k).2 = vv at *
        have hI := Bk.new wr 70 #[.int .i64 dy, .int .i64 vv]
        have hmI := (Mor.refl wr).alloc (o := .cells #[.int .i64 dy, .int .i64 vv] 70)
        go_wp2_with fail
        obtain ⟨bI, hgI⟩ : ∃ g, g = wr.heap.size := ⟨_, rfl⟩
        rw [← hgI] at hI ⊢
        clear hgI
        generalize wr.alloc (.cells #[.int .i64 dy, .int .i64 vv] 70) = wI at *
        have HPi := Lib.hid (fun gL w4 hln w' (h4 : Mor w4 w') (h : Mor wI w') => HPo.out gL w4 hln w' h4 (hmI.trans' h))
        have hbxI := hbx.mor hmI
        have HHI := Lib.hid (fun w' (h : Mor wI w') => And.intro (hbxI.mor h) (And.intro (hmr.trans' (hmI.trans' h)) (hld.mor (hmI.trans' h))))
        have HKp := Lib.hid (fun w' (h : Mor wI w') => show w'.cell? ⟨bX, 0, none⟩ = some (.slice A' 6 c') ∧ w'.cell? ⟨bX, 1, none⟩ = some (.slice X' m' k') ∧ w'.cell? ⟨bX, 2, none⟩ = some (.int .i64 (-1)) ∧ w'.cell? ⟨bI, 0, none⟩ = some (.int .i64 dy) ∧ w'.cell? ⟨bI, 1, none⟩ = some (.int .i64 vv) from
          ⟨(hbxI.mor h).cell 0, (hbxI.mor h).cell 1, (hbxI.mor h).cell 2, (hI.mor h).cell 0, (hI.mor h).cell 1⟩)
        have hbl := hbxI.lt
        have hIl := hI.lt
        clear hbx hld hbi hmr hI hmI hbxI HR HPo
        go_cut [8, 9] (fun s8 s9 wx => Hid (PutY wI wx (-1) (bib xs (k + 1)) s9 s8))
        case first =>
          go_region_held3 (fun w' => w'.cell? ⟨bX, 0, none⟩ = some (.slice A' 6 c') ∧ w'.cell? ⟨bX, 1, none⟩ = some (.slice X' m' k') ∧ w'.cell? ⟨bX, 2, none⟩ = some (.int .i64 (-1)) ∧ w'.cell? ⟨bI, 0, none⟩ = some (.int .i64 dy) ∧ w'.cell? ⟨bI, 1, none⟩ = some (.int .i64 vv)) (first | exact HKp.out _ (by repeat (first | exact Mor.refl _ | apply Mor.alloc | apply Mor.more | apply Mor.drewN | apply Mor.drew))) (first
            | (go_at_call 18; (with_reducible refine (HMv.out _).mono ?_); rintro e w5 ⟨gL, rfl, hln, -, bs0, d0, rfl⟩; (try simp only [drew_more] at hln); have HLn := Lib.hid hln; clear hln)
            | (go_at_call 19; (with_reducible refine (HPi.out gL _ HLn.out _ (by repeat (first | exact Mor.refl _ | apply Mor.alloc | apply Mor.more | apply Mor.drewN | apply Mor.drew)) (by repeat (first | exact Mor.refl _ | apply Mor.alloc | apply Mor.more | apply Mor.drewN | apply Mor.drew))).mono ?_); intro e w9 h9; obtain ⟨A6, c6, X6, m6, k6, rfl, hB, bs, dr, rfl⟩ := h9))
          all_goals (go_wp2_with fail)
          all_goals go_meet
          all_goals (try simp only [drew_more] at hB)
          all_goals (try simp only [drewN_more] at hB)
          all_goals (try simp only [more_more] at hB)
          all_goals first
            | exact Lib.hid (by have h := putZ_last (w := wI) (sh := -1) hB; rw [List.length_append] at h; exact h)
            | exact Lib.hid (putZ_first (w := wI) hB)
            | exact Lib.hid (by have h := putY_of (putZ_first (w := more wI bs0 d0) (sh := -1) hB) ⟨bs0, d0, rfl⟩; rw [size_more] at h; exact h)
        case rest =>
          obtain ⟨bY, A5, n5, c5, X5, m5, k5, rfl, rfl, hY, ⟨B5, hO5⟩, hM5⟩ := hcut.out
          have hn5 : n5 = 6 := by
            have := (own_bq hO5).ac.length
            rw [HSt.out.led.ac] at this
            exact this.symm
          subst hn5
          have HO5 := Lib.hid hO5
          have HXc := Lib.hid (HHI.out _ hM5)
          have y0 := hY.cell 0
          have y1 := hY.cell 1
          have y2 := hY.cell 2
          have yl := hY.lt
          have b0 := HXc.out.1.cell 0
          have b1 := HXc.out.1.cell 1
          have b2 := HXc.out.1.cell 2
          have f0 := HXc.out.1.frozen 0
          have f1 := HXc.out.1.frozen 1
          have f2 := HXc.out.1.frozen 2
          have bl := HXc.out.1.lt
          simp at y0 y1 y2 b0 b1 b2
          clear hY hO5 hM5 hbl hIl
          go_wp2_with fail
          go_roundw
          case rel => exact ⟨k + 1, A5, c5, X5, m5, k5, by omega, by go_num, Lib.hid ⟨by have := ((HXc.out.1.set_ 0 (.slice A5 6 c5)).set_ 1 (.slice X5 m5 k5)).set_ 2 (.int .i64 (-1)); simpa using this, (Hld.own HO5.out).store HXc.out.1, HSt.out, ((HXc.out.2.1.setC hwX).setC hwX).setC hwX⟩⟩
          case measure => simp [intOf]; omega
      · have ek : k = P := by omega
        subst ek
        obtain ⟨wL, rfl⟩ : ∃ wL, wL = wr := ⟨_, rfl⟩
        obtain ⟨hbx, hld, hbi, hmr⟩ := HR.out
        have hpa : PaI (bib xs k) (xs.take k) (ys.map fun y => wi y 100000) 0 := PaI.start _ hbi hP30 (fun p hp => HOk.out p (List.mem_of_mem_take hp))
        have HPw := Lib.hid (fun i (hi : i < ys.length) => show (ys.map fun y => wi y 100000).getD i 0 = wi (ys.getD i 0) 100000 from by
          rw [List.getD_eq_getElem?_getD, List.getD_eq_getElem?_getD, List.getElem?_map, List.getElem?_eq_getElem hi]; rfl)
        obtain ⟨ps, hps⟩ : ∃ ps, ps = ys.map fun y => wi y 100000 := ⟨_, rfl⟩
        rw [← hps] at hpa HPw
        have HIt := Lib.hid (show Pi wL A (xs.take k) from pi_take (HP.out _ (HM3.out.trans' hmr)) k)
        have hitl : (xs.take k).length = k := by rw [List.length_take, HL.out]; omega
        have HIl := Lib.hid hitl
        have HNil := Lib.hid hnil
        generalize bib xs k = b0 at *
        generalize xs.take k = x0 at *
        have HPa := Lib.hid hpa
        have HBx := Lib.hid hbx
        have HLd := Lib.hid hld
        have HMr := Lib.hid hmr
        clear hps hpa hbx hld hbi hmr HR hitl hnil
        go_wp2_with fail
        go_loopw [10, 65] (fun it i wr => ∃ (q : Nat) (IA : Option Addr) (il ic : Nat) (A' : Option Addr) (c' : Nat) (X' : Option Addr) (m' k' : Nat), q ≤ Q ∧ i = .int .i64 q ∧ it = .slice IA il ic ∧ Hid (Pi wr IA (its x0 ps q) ∧ (its x0 ps q).length = il ∧ (IA = none → il = 0) ∧ il ≤ ic) ∧ Hid (Bk wr bX 41 #[.slice A' 6 c', .slice X' m' k', .int .i64 (-1)] ∧ Hld wr (some ⟨g3, 0, none⟩) 6 6 none 0 0 topB A' c' X' m' k' (pab b0 x0 ps q) ∧ PaI b0 x0 ps q ∧ Mor w3 wr)) (fun _ i _ => Q - (intOf i).toNat)
        case atStart => exact ⟨0, A, k, cap, _, _, _, _, _, Nat.zero_le _, rfl, rfl, Lib.hid ⟨HIt.out, HIl.out, fun h => by have := HNil.out h; omega, by omega⟩, Lib.hid ⟨HBx.out, HLd.out, HPa.out, HMr.out⟩⟩
        case round =>
          obtain ⟨q, IA, il, ic, A', c', X', m', k', hq, rfl, rfl, HI, HR⟩ := hrel
          by_cases hlt : q < Q
          · have hqi : (q : Int) < (Q : Int) := by omega
            have hq0 : (0 : Int) ≤ (q : Int) := by omega
            have hqc : (q : Int) < (bcap : Int) := by omega
            have hql : q < ys.length := by rw [HBl.out]; omega
            obtain ⟨hbx, hld, hpa, hmr⟩ := HR.out
            obtain ⟨x, hB, hxb, c0⟩ := (HRi.out _ (HM3.out.trans' hmr)).at_ q hql
            subst hB
            have hw := HPw.out q hql
            have hw0 := wi_lo (ys.getD q 0) 100000 (by omega)
            have hw1 := wi_hi (ys.getD q 0) 100000 (by omega)
            obtain ⟨hst, g0, g9, hpy, l0, l1, hpc⟩ := hpa.step (by omega) (by rw [hw]; exact hw0) (by rw [hw]; omega)
            have hpm : pmt x0 ps q = ps.getD q 0 - lft (byDay (its x0 ps q)) (ps.getD q 0) := rfl
            have HWi := Lib.hid (fun w => within_any (ys.getD q 0) 100000 w (by omega) (by omega))
            have HPy := Lib.hid (fun w' (h : Mor wr w') => show Calls Try.prog 27 #[.slice IA il ic, .int .i64 (ps.getD q 0)] w' (fun e w'' => ∃ B m cap, e = .returned (.tuple #[.slice B m cap, .int .i64 (lft (byDay (its x0 ps q)) (ps.getD q 0)), .int .i64 0]) ∧ Mor w' w'' ∧ Pi w'' B (pay (byDay (its x0 ps q)) (ps.getD q 0)) ∧ (pay (byDay (its x0 ps q)) (ps.getD q 0)).length = m ∧ ((B = none ∧ m = 0 ∧ cap = 0) ∨ ∃ g, B = some ⟨g, 0, none⟩ ∧ w'.heap.size ≤ g ∧ m ≤ cap)) from pay_yes IA il ic (its x0 ps q) (ps.getD q 0) w' (HI.out.1.mor h) HI.out.2.1 HI.out.2.2.1 hpy)
            rw [← hw] at HWi
            rw [← hw] at hw0 hw1
            have hab : pab b0 x0 ps (q + 1) = if pmt x0 ps q = 0 then pab b0 x0 ps q else postb (pab b0 x0 ps q) ⟨kyB (100 + q), 292193, paL (pmt x0 ps q)⟩ := rfl
            have hits : its x0 ps (q + 1) = pay (byDay (its x0 ps q)) (ps.getD q 0) := rfl
            have HSt := Lib.hid hst
            have HIn := Lib.hid hits
            have HAb := Lib.hid hab
            have hbq := hld.bq HQ3.out hmr
            have hsj : (pab b0 x0 ps q).shut = -1 := hpa.led.sh
            have haj := hbq.ac.length
            have HPc := Lib.hid hpc
            have HBr := Lib.hid (fun w' (h : Mor wr w') => hbx.mor h)
            have HLr := Lib.hid (fun w' (h : Mor wr w') => hld.mor h)
            have HMw := Lib.hid hmr
            have HBq := Lib.hid hbq
            have HSj := Lib.hid hsj
            have HAj := Lib.hid haj
            clear hpc hab hits hst hw hpy hbx hld hpa hmr HI HR hbq hsj haj
            generalize pay (byDay (its x0 ps q)) (ps.getD q 0) = nx at *
            obtain ⟨M, hM⟩ : ∃ M, pmt x0 ps q = M := ⟨_, rfl⟩
            rw [hM] at hpm g0 g9 HAb HPc
            generalize lft (byDay (its x0 ps q)) (ps.getD q 0) = lf at *
            generalize ps.getD q 0 = pp at *
            generalize ys.getD q 0 = yy at *
            clear hM
            go_wp2_with (go_at_call 11; (with_reducible refine (HWi.out _).mono ?_); rintro e w4b ⟨rfl, rfl⟩)
            refine (HPy.out _ (Mor.refl _)).mono ?_
            rintro e w5 ⟨NA, nl, nc, rfl, hm5, hpi5, hln5, hsh5⟩
            have HN5 := Lib.hid (fun w' (h : Mor w5 w') => hpi5.mor h)
            have HNl := Lib.hid hln5
            have hnc : nl ≤ nc ∧ (NA = none → nl = 0) := by
              rcases hsh5 with ⟨_, h1, h2⟩ | ⟨g, h1, _, h2⟩
              · exact ⟨by omega, fun _ => h1⟩
              · exact ⟨h2, fun h => by rw [h1] at h; cases h⟩
            have HNc := Lib.hid hnc
            have HNb := Lib.hid (show ∀ x, NA = some x → x.block ≠ bX from fun x hx => by
              have hbl := (HBr.out _ (Mor.refl _)).lt
              rcases hsh5 with ⟨h1, _, _⟩ | ⟨g, h1, h2, _⟩
              · rw [h1] at hx; cases hx
              · rw [h1] at hx; injection hx with hx; subst hx; show g ≠ bX; omega)
            have HM5 := Lib.hid hm5
            have hb5 := HBr.out _ hm5
            have b0' := hb5.cell 0
            have b1' := hb5.cell 1
            have b2' := hb5.cell 2
            have f0' := hb5.frozen 0
            have f1' := hb5.frozen 1
            have f2' := hb5.frozen 2
            have bl := hb5.lt
            simp at b0' b1' b2'
            have HB5 := Lib.hid hb5
            clear hm5 hpi5 hln5 hsh5 hnc hb5 HPy HWi
            have hd1 : decide (lf < 0) = false := decide_eq_false (by omega)
            have hd2 : decide (pp < lf) = false := decide_eq_false (by omega)
            have hd3 : ¬ lf < 0 := by omega
            have hd4 : ¬ pp < lf := by omega
            by_cases hz : M = 0
            · have hlp : lf = pp := by omega
              subst hlp
              have HA0 := Lib.hid (show pab b0 x0 ps (q + 1) = pab b0 x0 ps q by rw [HAb.out, if_pos hz])
              clear hz hpm HPc hd2 hd4 l1
              go_wp2_with fail
              go_roundw
              case rel => exact ⟨q + 1, NA, nl, nc, A', c', X', m', k', by omega, by go_num, rfl, Lib.hid ⟨by rw [HIn.out]; exact HN5.out _ (Mor.refl _), by rw [HIn.out]; exact HNl.out, HNc.out.2, HNc.out.1⟩, Lib.hid ⟨HB5.out, by rw [HA0.out]; exact HLr.out _ HM5.out, HSt.out, HMw.out.trans' HM5.out⟩⟩
              case measure => simp [intOf]; omega
            · have hlp : lf < pp := by omega
              have hpc := HPc.out hz
              have hst1 : pab b0 x0 ps (q + 1) = postb (pab b0 x0 ps q) ⟨kyB (100 + q), 292193, paL M⟩ := by rw [HAb.out, if_neg hz]
              have hbq := HBq.out
              have hsj := HSj.out
              have haj := HAj.out
              unfold paL at hpc hst1
              have HPo := Lib.hid (fun gL w4 (hln : Bk w4 gL 50 (flat pc [(s10, M), (t15, -M)]).toArray) w' (h4 : Mor w4 w') (h : Mor wr w') => show Calls Try.prog 19 #[bv A' 6 c' X' m' k' (-1), .agg #[.string (kyB (100 + q)), .int .i64 292193, .slice (some ⟨gL, 0, none⟩) 2 2]] w' (fun e w'' => ∃ A c X m k9, e = .returned (.tuple #[bv A 6 c X m k9 (-1), .int .i64 0]) ∧ OwnB w'' w'.heap.size (.slice A 6 c) (.slice X m k9) 6 m (pab b0 x0 ps (q + 1)) ∧ Mor w' w'') by
                have h3 := post_yes A' 6 c' X' m' k' (pab b0 x0 ps q) ⟨(kyB (100 + q)), 292193, [(s10, M), (t15, -M)]⟩ (some ⟨gL, 0, none⟩) 2 2 w' (hbq.mor h) (bk_two (hln.mor h4) (by unfold maxLen; show (2 : Nat) ≤ _; omega) (by unfold maxLen; show (2 : Nat) ≤ _; omega)) (kyB_max _) hpc
                rw [hsj] at h3
                refine h3.mono fun e w'' h => ?_
                obtain ⟨A9, c9, X9, m9, k9, he, ho, hm9⟩ := postYes_own h (n := 6) (by rw [(post_ac _ _).1]; exact haj)
                rw [(post_ac _ _).2, hsj] at he
                exact ⟨A9, c9, X9, m9, k9, he, by first | exact ho | (rw [hst1]; exact ho), hm9⟩)
              have HMv := Lib.hid (fun w => moved_any (100 + q) 292193 M s10 t15 w (by omega) (by omega) (by omega))
              have hci : ((100 + q : Nat) : Int) = 100 + (q : Int) := by omega
              rw [hci] at HMv
              have HPi := Lib.hid (fun gL w4 hln w' (h4 : Mor w4 w') (h : Mor w5 w') => HPo.out gL w4 hln w' h4 (HM5.out.trans' h))
              have hMe : pp - lf = M := by omega
              have HMv2 := Lib.hid HMv.out
              have HMv3 := Lib.hid (fun w => show Calls Try.prog 18 #[.int .i64 (100 + (q : Int)), .int .i64 292193, .int .i64 (IntKind.i64.wrap M), .string s10, .string t15] w (fun e w' => ∃ g, e = .returned (.agg #[.string (kyB (100 + q)), .int .i64 292193, .slice (some ⟨g, 0, none⟩) 2 2]) ∧ Bk w' g 50 (flat pc [(s10, M), (t15, -M)]).toArray ∧ w.heap.size ≤ g ∧ Mor w w') from by
                rw [IntWalk.i64_in M (by omega)]; exact HMv.out w)
              clear hpc hst1 hbq hsj haj HPo
              have hpm2 : IntKind.i64.wrap (pp - lf) = M := by rw [hMe]; exact IntWalk.i64_in _ (by omega)
              have hq100 : IntKind.i64.wrap (100 + (q : Int)) = 100 + (q : Int) := IntWalk.i64_in _ (by omega)
              clear hpm
              go_wp2_with fail
              go_region_with (first
                | (go_at_call 18; (with_reducible first | refine (HMv2.out _).mono ?_ | refine (HMv3.out _).mono ?_); rintro e w6 ⟨gL, rfl, hln, -, bs0, d0, rfl⟩; (try simp only [drew_more] at hln); have HLn := Lib.hid hln; clear hln)
                | (go_at_call 19; (with_reducible refine (HPi.out gL _ HLn.out _ (by repeat (first | exact Mor.refl _ | apply Mor.alloc | apply Mor.more | apply Mor.drewN | apply Mor.drew)) (by repeat (first | exact Mor.refl _ | apply Mor.alloc | apply Mor.more | apply Mor.drewN | apply Mor.drew))).mono ?_); intro e w9 h9; obtain ⟨A6, c6, X6, m6, k6, rfl, hB, bs, dr, rfl⟩ := h9))
              all_goals go_simp
              all_goals (try simp only [drew_more] at hB)
              all_goals (try simp only [drewN_more] at hB)
              all_goals (try simp only [more_more] at hB)
              all_goals
                obtain ⟨hbz, hoz⟩ := putS (z := .slice A' 6 c') (z' := .slice X' m' k') (z'' := .int .i64 (-1)) (.slice A6 6 c6) (.slice X6 m6 k6) (.int .i64 (-1)) hB HB5.out
                have hpz := pi_put (bs := bs0 ++ bs) (dr := dr) (.slice A6 6 c6) (.slice X6 m6 k6) (.int .i64 (-1)) (HN5.out _ (Mor.refl _)) HNb.out
                have hmz := ((((HMw.out.trans' HM5.out).setC (i := 0) (u := .slice A6 6 c6) hwX).setC (i := 1) (u := .slice X6 m6 k6) hwX).setC (i := 2) (u := .int .i64 (-1)) hwX).more (bs := bs0 ++ bs) (k := dr)
                have HZ := Lib.hid (And.intro hbz (And.intro hoz (And.intro hpz hmz)))
                clear hbz hoz hpz hmz hB
                go_wp2_with fail
                go_roundw
                case rel => exact ⟨q + 1, NA, nl, nc, A6, c6, X6, m6, k6, by omega, by go_num, rfl, Lib.hid ⟨by rw [HIn.out]; exact HZ.out.2.2.1, by rw [HIn.out]; exact HNl.out, HNc.out.2, HNc.out.1⟩, Lib.hid ⟨HZ.out.1, Hld.own HZ.out.2.1, HSt.out, HZ.out.2.2.2⟩⟩
                case measure => simp [intOf]; omega
          · have eq : q = Q := by omega
            subst eq
            obtain ⟨wS, rfl⟩ : ∃ wS, wS = wr := ⟨_, rfl⟩
            obtain ⟨hbx, hld, hpa, hmr⟩ := HR.out
            obtain ⟨hpi, hil, -, hic⟩ := HI.out
            have hbq := hld.bq HQ3.out hmr
            obtain ⟨e1, e2⟩ := hpa.led.bal top_has.2.1 (d := 292193) (by omega) (by omega)
            rw [hpa.a15] at e2
            have hokI := hpa.ok
            have hil30 := hpa.il
            have HBa := Lib.hid (fun w' (h : Mor wS w') => show Calls Try.prog 20 #[bv A' 6 c' X' m' k' (-1), .string t15, .int .i64 292193] w' (fun e w'' => e = .returned (.tuple #[.int .i64 (tot (its x0 ps q)), .int .i64 0]) ∧ Mor w' w'') from by
              have h2 := bal_any A' 6 c' X' m' k' _ t15 292193 w' (hbq.mor h)
              rw [hpa.led.sh, e1, e2] at h2
              exact h2)
            have HBx2 := Lib.hid (fun w' (h : Mor wS w') => hbx.mor h)
            have HIi := Lib.hid (fun w' (h : Mor wS w') => hpi.mor h)
            have HMs := Lib.hid hmr
            have HIl2 := Lib.hid hil
            have HOi := Lib.hid hokI
            have htb := fun j => tot_bd (xs := (its x0 ps q).take j) fun p hp => hokI p (List.mem_of_mem_take hp)
            have htn := fun j => tot_nn (xs := (its x0 ps q).take j) fun p hp => (hokI p (List.mem_of_mem_take hp)).2.2.1
            have HTb := Lib.hid (fun j => And.intro (htn j) (htb j))
            have il30 : il ≤ 30 := by omega
            clear hbx hld hpa hmr hpi hil hbq e1 e2 hokI hil30 htb htn HI HR
            generalize its x0 ps q = ti at *
            go_wp2_with fail
            go_loopw [16, 110] (fun l i wr => ∃ j : Nat, j ≤ il ∧ i = .int .i64 j ∧ l = .int .i64 (tot (ti.take j)) ∧ Hid (Mor wS wr)) (fun _ i _ => il - (intOf i).toNat)
            case atStart => exact ⟨0, Nat.zero_le _, rfl, by rw [List.take_zero]; rfl, Lib.hid (Mor.refl _)⟩
            case round =>
              obtain ⟨j, hj, rfl, rfl, HQ⟩ := hrel
              by_cases hlt : j < il
              · have hji : (j : Int) < (il : Int) := by omega
                have hj0 : (0 : Int) ≤ (j : Int) := by omega
                have hjc : (j : Int) < (ic : Int) := by omega
                have hjl : j < ti.length := by rw [HIl2.out]; exact hlt
                obtain ⟨z, hZA, hzb, d0, d1⟩ := (HIi.out _ HQ.out).at_ j hjl
                subst hZA
                have HCs := Lib.hid (tot_take ti j hjl)
                obtain ⟨hb1, hb2⟩ := HTb.out j
                obtain ⟨hb3, hb4⟩ := HTb.out (j + 1)
                have hl1 : (ti.take j).length ≤ 30 := by rw [List.length_take]; omega
                have hl2 : (ti.take (j + 1)).length ≤ 30 := by rw [List.length_take]; omega
                rw [HCs.out] at hb3 hb4
                have hb5 : tot (ti.take j) ≤ 30000000000000 := by omega
                have hb6 : tot (ti.take j) + (ge ti j).2 ≤ 30000000000000 := by omega
                have d0' : wr.cell? (z.add (j * 2)) = some (.int .i64 (ge ti j).1) := d0
                have d1' : wr.cell? ⟨(z.add (j * 2)).block, (z.add (j * 2)).off + 1, none⟩ = some (.int .i64 (ge ti j).2) := d1
                clear d0 d1 hb2 hb4 hl1 hl2
                generalize (ge ti j).2 = T at *
                generalize (ge ti j).1 = C at *
                generalize tot (ti.take j) = Y at *
                go_wp2_with fail
                go_roundw
                case rel => exact ⟨j + 1, by omega, by go_num, by rw [HCs.out], Lib.hid HQ.out.alloc⟩
                case measure => simp [intOf]; omega
              · have ej : j = il := by omega
                subst ej
                have htk : ti.take j = ti := by rw [← HIl2.out]; exact List.take_length
                rw [htk]
                have hbx := HBx2.out _ HQ.out
                have b0' := hbx.cell 0
                have b1' := hbx.cell 1
                have b2' := hbx.cell 2
                have bl := hbx.lt
                simp at b0' b1' b2'
                clear hbx htk
                generalize tot ti = TT at *
                go_wp2_with fail
                refine (HBa.out _ HQ.out).mono ?_
                rintro e w7 ⟨rfl, hm7⟩
                go_wp2_with fail
                go_ret
                exact ⟨ret_b (by first | rfl | simp), (HM3.out.trans' (HMs.out.trans' (HQ.out.trans' hm7))).below⟩
  · have hcb : (itc xs != 0) = true := by simpa using hc
    generalize itc xs = r at *
    go_wp2_with fail
    refine (topbegun_any _).mono ?_
    rintro e w3 ⟨rfl, hm3⟩
    have HM3 := Lib.hid (HM2.out.trans' hm3)
    clear hm3
    go_wp2_with fail
    go_ret
    exact ⟨rfl, HM3.out.below⟩

end Go.Proofs.Ytdpphneebikdpaa.topOwed
