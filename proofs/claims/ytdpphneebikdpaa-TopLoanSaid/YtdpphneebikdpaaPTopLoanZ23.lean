/- The walk of trial.kinds: what the accounts of each kind come to. -/
import Derived.Test.YtdpphneebikdpaaPTopLoanZ1
import Derived.Test.YtdpphneebikdpaaPTopLoanZ2
import Derived.Test.YtdpphneebikdpaaPTopLoanZ3
import Derived.Test.YtdpphneebikdpaaPTopLoanZ4
import Derived.Test.YtdpphneebikdpaaPTopLoanZ5
import Derived.Test.YtdpphneebikdpaaPTopLoanZ6
import Derived.Test.YtdpphneebikdpaaPTopLoanZ7
import Derived.Test.YtdpphneebikdpaaPTopLoanZ8
import Derived.Test.YtdpphneebikdpaaPTopLoanZ9
import Derived.Test.YtdpphneebikdpaaPTopLoanZ10
import Derived.Test.YtdpphneebikdpaaPTopLoanZ11
import Derived.Test.YtdpphneebikdpaaPTopLoanZ12
import Derived.Test.YtdpphneebikdpaaPTopLoanZ13
import Derived.Test.YtdpphneebikdpaaPTopLoanZ14
import Derived.Test.YtdpphneebikdpaaPTopLoanZ15
import Derived.Test.YtdpphneebikdpaaPTopLoanZ16
import Derived.Test.YtdpphneebikdpaaPTopLoanZ17
import Derived.Test.YtdpphneebikdpaaPTopLoanZ18
import Derived.Test.YtdpphneebikdpaaPTopLoanZ19
import Derived.Test.YtdpphneebikdpaaPTopLoanZ20
import Derived.Test.YtdpphneebikdpaaPTopLoanZ21
import Derived.Test.YtdpphneebikdpaaPTopLoanZ22
import Derived.Test.YtdpphneebikdpaaRows
import Derived.BigQuiet
import Derived.BigRegion
import Derived.Carry
import Derived.DataElems
import Derived.Deep.DeepCutAuto
import Derived.Deep.LoopGhost
import Derived.Deep.QuietTactic
import Derived.Deep.RegionHeld3
import Derived.Deep.RegionLaw
import Derived.Deep.RegionWith
import Derived.Deep.SlicePairs
import Derived.Deep.Slices
import Derived.Deep.Strs
import Derived.Handy
import Derived.IntWalk
import Derived.Laws.AppendOwn
import Derived.Laws.CopyOwn
import Derived.Laws.CopyRow
import Derived.Laws.Cover1
import Derived.Laws.Externs
import Derived.Laws.NewBlocks
import Derived.Lib.AppendZerosOnto
import Derived.Lib.Bytealg
import Derived.Lib.Hide
import Derived.Lib.Overlaps
import Derived.Lib.SliceRun
import Derived.Lib.Walk
import Derived.Maps.Own
import Derived.Maps.OwnSet
import Derived.Maps.Views
import Derived.OpenShut
import Derived.Outline
import Derived.OwnWalk
import Derived.PlainAid
import Derived.ProofKit
import Derived.RegionTactic
import Derived.Shelf.Abstract
import Derived.Shelf.RegionOpenPlain
import Derived.Sort.Walk0
import Derived.StringKeys
import Derived.WalkKit
import Derived.WalkSpells
namespace Go.Proofs.Ytdpphneebikdpaa
open Go.ChangeShapes Go.WideShapes Go.ChangeAt Go.RowKit Go.PlainAid
set_option linter.unusedVariables false
set_option maxRecDepth 100000

/-- what the accounts of one kind come to -/
def kS (es : List En) (f t : Int) (q : Nat) (ac : List Ln) : Int := sm (fun a => if a.2 = (q : Int) then ofS es a.1 f t else 0) ac
/-- an array of five -/
def kv (f : Nat → Int) : Array Value := #[.int .i64 (f 0), .int .i64 (f 1), .int .i64 (f 2), .int .i64 (f 3), .int .i64 (f 4)]
theorem kv_at (f : Nat → Int) (q : Nat) (h : q < 5) : (kv f)[q]? = some (.int .i64 (f q)) := by
  match q, h with
  | 0, _ => rfl
  | 1, _ => rfl
  | 2, _ => rfl
  | 3, _ => rfl
  | 4, _ => rfl
theorem kv_set (f f' : Nat → Int) (q : Nat) (h : q < 5) (o : Int) (hf : ∀ p, f' p = f p + if p = q then o else 0) : (kv f).setIfInBounds q (.int .i64 (f q + o)) = kv f' := by
  unfold kv
  simp only [hf]
  match q, h with
  | 0, _ => simp
  | 1, _ => simp
  | 2, _ => simp
  | 3, _ => simp
  | 4, _ => simp
theorem kS_take (es : List En) (f t : Int) (ac : List Ln) (j : Nat) (h : j < ac.length) (q : Nat) (hq : am ac j = (q : Int)) (p : Nat) :
    kS es f t p (ac.take (j + 1)) = kS es f t p (ac.take j) + if p = q then ofS es (cd ac j) f t else 0 := by
  unfold kS
  rw [sm_take _ _ _ h]
  have e2 : ac[j].2 = (q : Int) := by rw [← hq]; exact (cd_at ac j h).2.symm
  have e3 : ac[j].1 = cd ac j := (cd_at ac j h).1.symm
  rw [e2, e3]
  by_cases hp : p = q
  · subst hp; simp
  · rw [if_neg (by omega), if_neg hp]
theorem kS_bd {es : List En} (h : ∀ x ∈ es, enc x = 0) (hl : es.length ≤ 60) (f t : Int) (q : Nat) (ac : List Ln) : -720000000000000 * (ac.length : Int) ≤ kS es f t q ac ∧ kS es f t q ac ≤ 720000000000000 * ac.length := by
  have := sm_bd (f := fun a : Ln => if a.2 = (q : Int) then ofS es a.1 f t else 0) (M := 720000000000000) (xs := ac) (fun a _ => by have := ofS_bd h hl a.1 f t; split <;> omega)
  unfold kS
  omega
theorem Mor.setC {w w' : World} {g i : Nat} {u : Value} (h : Mor w w') (hg : w.heap.size ≤ g) : Mor w (w'.setCell ⟨g, i, none⟩ u) := Mor.of_below (h.below.setCell hg u)
set_option maxRecDepth 100000 in
set_option maxHeartbeats 3200000 in
theorem kinds_any (A : Option Addr) (n c : Nat) (X : Option Addr) (m k : Nat) (b : Bok) (f t : Int) (w : World) (h : Bq w A n c X m k b) (hbo : BOk b) :
    Calls Try.prog 55 #[bv A n c X m k b.shut, .int .i64 f, .int .i64 t] w fun e w' => e = .returned (.agg (kv fun q => kS b.en f t q b.ac)) ∧ Mor w w' := by
  have HO := Lib.hid (fun w' (hm : Mor w w') s => of_any A n c X m k b.shut b.en s f t w' (h.es.mor hm) h.length (by rw [← h.length]; exact hbo.len) hbo.enc)
  have HAc := Lib.hid (fun w' (hm : Mor w w') => h.ac.si.mor hm)
  have HN := Lib.hid h.ac.length
  have hn24 : n ≤ 24 := by rw [← h.ac.length]; exact (acc_ok hbo.ac).1
  have HK := Lib.hid (fun j (hj : j < n) => show ∃ q : Nat, q < 5 ∧ am b.ac j = (q : Int) ∧ ∀ p, kS b.en f t p (b.ac.take (j + 1)) = kS b.en f t p (b.ac.take j) + if p = q then ofS b.en (cd b.ac j) f t else 0 by
    have hj' : j < b.ac.length := by rw [h.ac.length]; exact hj
    have h2 := (acc_ok hbo.ac).2.2.1 _ (List.getElem_mem hj')
    have h3 : 0 ≤ am b.ac j ∧ am b.ac j ≤ 4 := by rw [(cd_at b.ac j hj').2]; exact h2.2
    refine ⟨(am b.ac j).toNat, by omega, by omega, kS_take _ _ _ _ _ hj' _ (by omega)⟩)
  have HSb := Lib.hid (fun s => ofS_bd hbo.enc hbo.len s f t)
  have HBk := Lib.hid (fun j (hj : j ≤ n) q => show -720000000000000 * (j : Int) ≤ kS b.en f t q (b.ac.take j) ∧ kS b.en f t q (b.ac.take j) ≤ 720000000000000 * j by
    have := kS_bd hbo.enc hbo.len f t q (b.ac.take j)
    rw [show (b.ac.take j).length = j by rw [List.length_take, h.ac.length]; omega] at this
    exact this)
  have HAll := Lib.hid (show b.ac.take n = b.ac from List.take_of_length_le (by rw [h.ac.length]; exact Nat.le_refl _))
  generalize b.shut = sh at *
  clear h hbo
  go_enter Try.func55, Try.ntmps55
  go_wp2_with fail
  have hP := ((Bk.new w 41 #[.slice A n c, .slice X m k, .int .i64 sh]).alloc (.cells #[.int .i64 0, .int .i64 0, .int .i64 0, .int .i64 0, .int .i64 0] 104)).alloc (.cells #[.int .i64 0, .int .i64 0, .int .i64 0, .int .i64 0, .int .i64 0] 104)
  have hR := (Bk.new (w.alloc (.cells #[.slice A n c, .slice X m k, .int .i64 sh] 41)) 104 #[.int .i64 0, .int .i64 0, .int .i64 0, .int .i64 0, .int .i64 0]).alloc (.cells #[.int .i64 0, .int .i64 0, .int .i64 0, .int .i64 0, .int .i64 0] 104)
  have hG := Bk.new ((w.alloc (.cells #[.slice A n c, .slice X m k, .int .i64 sh] 41)).alloc (.cells #[.int .i64 0, .int .i64 0, .int .i64 0, .int .i64 0, .int .i64 0] 104)) 104 #[.int .i64 0, .int .i64 0, .int .i64 0, .int .i64 0, .int .i64 0]
  have hM := (Mor.refl w).alloc (o := .cells #[.slice A n c, .slice X m k, .int .i64 sh] 41) |>.alloc (o := .cells #[.int .i64 0, .int .i64 0, .int .i64 0, .int .i64 0, .int .i64 0] 104) |>.alloc (o := .cells #[.int .i64 0, .int .i64 0, .int .i64 0, .int .i64 0, .int .i64 0] 104)
  rw [← sz1] at hR
  rw [← sz1, ← sz1] at hG
  generalize ((w.alloc (.cells #[.slice A n c, .slice X m k, .int .i64 sh] 41)).alloc (.cells #[.int .i64 0, .int .i64 0, .int .i64 0, .int .i64 0, .int .i64 0] 104)).alloc (.cells #[.int .i64 0, .int .i64 0, .int .i64 0, .int .i64 0, .int .i64 0] 104) = w0 at *
  obtain ⟨bP, hbP⟩ : ∃ g, g = w.heap.size := ⟨_, rfl⟩
  rw [← hbP] at hP hR hG ⊢
  obtain ⟨bR, hbR⟩ : ∃ g, g = bP + 1 := ⟨_, rfl⟩
  rw [← hbR] at hR hG ⊢
  obtain ⟨g, hbG⟩ : ∃ g, g = bR + 1 := ⟨_, rfl⟩
  rw [← hbG] at hG ⊢
  have HNe := Lib.hid (show w.heap.size ≤ g ∧ bP ≠ g ∧ bR ≠ g ∧ w.heap.size ≤ bR ∧ w.heap.size ≤ bP by omega)
  have HP := Lib.hid hP
  have HR := Lib.hid hR
  have HG := Lib.hid hG
  have HM := Lib.hid hM
  clear hP hR hG hM hbP hbR hbG
  go_loopw [13] (fun i wr => ∃ j : Nat, j ≤ n ∧ i = .int .i64 j ∧ Hid (Bk wr bP 41 #[.slice A n c, .slice X m k, .int .i64 sh] ∧ Bk wr bR 104 #[.int .i64 0, .int .i64 0, .int .i64 0, .int .i64 0, .int .i64 0] ∧ Bk wr g 104 (kv fun q => kS b.en f t q (b.ac.take j)) ∧ Mor w wr)) (fun i _ => n - (intOf i).toNat)
  case atStart => exact ⟨0, Nat.zero_le _, rfl, Lib.hid ⟨HP.out, HR.out, HG.out, HM.out⟩⟩
  case round =>
    obtain ⟨j, hj, rfl, HH⟩ := hrel
    by_cases hlt : j < n
    · have hji : (j : Int) < (n : Int) := by omega
      have hj0 : (0 : Int) ≤ (j : Int) := by omega
      obtain ⟨q, hq, ha, hstep⟩ := HK.out j hlt
      obtain ⟨x, hA, hxb, d0, d1⟩ := (HAc.out _ HH.out.2.2.2).at_ j (by rw [HN.out]; exact hlt)
      subst hA
      rw [ha] at d1
      obtain ⟨s1, s2⟩ := HSb.out (cd b.ac j)
      obtain ⟨q1, q2⟩ := HBk.out j hj q
      have HStep := Lib.hid hstep
      have hq5 : (q : Int) < 5 := by omega
      have hq0 : (0 : Int) ≤ (q : Int) := by omega
      have HOj := Lib.hid (fun w' (h : Mor w w') => HO.out w' h (cd b.ac j))
      clear hstep ha
      obtain ⟨Q, hQ⟩ : ∃ Q : Nat → Int, Q = fun q => kS b.en f t q (b.ac.take j) := ⟨_, rfl⟩
      rw [← hQ] at HH
      rw [show kS b.en f t q (b.ac.take j) = Q q by rw [hQ]] at q1 q2
      have HQ := Lib.hid hQ
      clear hQ
      generalize ofS b.en (cd b.ac j) f t = o at *
      generalize cd b.ac j = s at *
      have c0 := HH.out.1.cell 0
      have c1 := HH.out.1.cell 1
      have c2 := HH.out.1.cell 2
      have cl := HH.out.1.lt
      simp at c0 c1 c2
      have gl := HH.out.2.2.1.lt
      generalize hv : Q q = v at *
      have HV := Lib.hid hv
      clear hv
      go_wp2_with fail
      obtain ⟨hP, hR, hG, hM⟩ := HH.out
      have hA := Bk.new wr 85 #[.string s, .int .i64 q]
      have hP := hP.alloc (.cells #[.string s, .int .i64 q] 85)
      have hR := hR.alloc (.cells #[.string s, .int .i64 q] 85)
      have hG := hG.alloc (.cells #[.string s, .int .i64 q] 85)
      have hM := hM.alloc (o := .cells #[.string s, .int .i64 q] 85)
      have hne : wr.heap.size ≠ g := by omega
      generalize wr.alloc (.cells #[.string s, .int .i64 q] 85) = wn at *
      generalize wr.heap.size = bA at *
      have HKp := Lib.hid (fun w' (hP : Bk w' bP 41 #[.slice (some x) n c, .slice X m k, .int .i64 sh]) (hA : Bk w' bA 85 #[.string s, .int .i64 q]) => show w'.cell? ⟨bP, 0, none⟩ = some (.slice (some x) n c) ∧ w'.cell? ⟨bP, 1, none⟩ = some (.slice X m k) ∧ w'.cell? ⟨bP, 2, none⟩ = some (.int .i64 sh) ∧ w'.cell? ⟨bA, 0, none⟩ = some (.string s) ∧ w'.cell? ⟨bA, 1, none⟩ = some (.int .i64 q) from ⟨by rw [hP.cell]; rfl, by rw [hP.cell]; rfl, by rw [hP.cell]; rfl, by rw [hA.cell]; rfl, by rw [hA.cell]; rfl⟩)
      have HNe2 := Lib.hid (And.intro HNe.out.2.1 hne)
      have hwv : IntKind.i64.wrap (v + o) = v + o := IntWalk.i64_in _ (by omega)
      have g0 : wn.cell? ⟨g, q, none⟩ = some (.int .i64 v) := by rw [hG.cell, kv_at Q q hq, HV.out]
      have HAn := Lib.hid hA
      have HPn := Lib.hid hP
      have HRn := Lib.hid hR
      have HGn := Lib.hid hG
      have HMn := Lib.hid hM
      have al := hA.lt
      have pl := hP.lt
      have gl := hG.lt
      have gf := hG.frozen q
      obtain ⟨c0, c1, c2, a0, a1⟩ := HKp.out _ hP hA
      have HNx := Lib.hid (fun bs dr => show Hid (Bk (more (wn.setCell ⟨g, q, none⟩ (.int .i64 (v + o))) bs dr) bP 41 #[.slice (some x) n c, .slice X m k, .int .i64 sh] ∧ Bk (more (wn.setCell ⟨g, q, none⟩ (.int .i64 (v + o))) bs dr) bR 104 #[.int .i64 0, .int .i64 0, .int .i64 0, .int .i64 0, .int .i64 0] ∧ Bk (more (wn.setCell ⟨g, q, none⟩ (.int .i64 (v + o))) bs dr) g 104 (kv fun q => kS b.en f t q (b.ac.take (j + 1))) ∧ Mor w (more (wn.setCell ⟨g, q, none⟩ (.int .i64 (v + o))) bs dr)) from Lib.hid ⟨(hP.set_other _ _ _ HNe.out.2.1).more _ _, (hR.set_other _ _ _ HNe.out.2.2.1).more _ _, by
        have h2 := (hG.set_ q (.int .i64 (v + o))).more bs dr
        rw [← HV.out, kv_set Q (fun q => kS b.en f t q (b.ac.take (j + 1))) q hq o (fun p => by rw [HStep.out p, HQ.out])] at h2
        rw [← HV.out]
        exact h2, (hM.setC HNe.out.1).more⟩)
      clear hA hP hR hG hM HH d0 d1
      refine wp_region_held_drew (S := (fun w' => w'.cell? ⟨bP, 0, none⟩ = some (.slice (some x) n c) ∧ w'.cell? ⟨bP, 1, none⟩ = some (.slice X m k) ∧ w'.cell? ⟨bP, 2, none⟩ = some (.int .i64 sh) ∧ w'.cell? ⟨bA, 0, none⟩ = some (.string s) ∧ w'.cell? ⟨bA, 1, none⟩ = some (.int .i64 q))) (by kernel_rfl) ?_ (fun hHeld => ?_)
      · (refine HKp.out _ ?_ ?_ <;> repeat (first | exact HPn.out | exact HAn.out | apply Bk.alloc | apply Bk.more | apply Bk.drewN | apply Bk.drew | (refine Bk.set_other ?_ _ _ _ HNe2.out.1) | (refine Bk.set_other ?_ _ _ _ HNe2.out.2)))
      refine wpAnyH_take (i := 0) (v := ?_) rfl (by kernel_rfl) (by kernel_rfl) (by kernel_rfl) (fun _ _ _ h => h) (Or.inl ⟨by rfl, ?_⟩) (by assumption) ?_
      rotate_left
      · (intro w hSw; (try dsimp only at hSw); go_simp; try with_reducible rfl)
      dsimp [Act.put]
      simp only [List.setIfInBounds_toArray, List.set_cons_zero, List.set_cons_succ]
      refine wpAnyH_take (i := 1) (v := ?_) rfl (by kernel_rfl) (by kernel_rfl) (by kernel_rfl) (fun _ _ _ h => h) (Or.inl ⟨by rfl, ?_⟩) (by assumption) ?_
      rotate_left
      · (intro w hSw; (try dsimp only at hSw); go_simp; try with_reducible rfl)
      dsimp [Act.put]
      simp only [List.setIfInBounds_toArray, List.set_cons_zero, List.set_cons_succ]
      refine wpAnyH_take (i := 2) (v := ?_) rfl (by kernel_rfl) (by kernel_rfl) (by kernel_rfl) (fun _ _ _ h => h) (Or.inl ⟨by rfl, ?_⟩) (by assumption) ?_
      rotate_left
      · (intro w hSw; (try dsimp only at hSw); go_simp; try with_reducible rfl)
      dsimp [Act.put]
      simp only [List.setIfInBounds_toArray, List.set_cons_zero, List.set_cons_succ]
      refine wpAnyH_take (i := 4) (v := ?_) rfl (by kernel_rfl) (by kernel_rfl) (by kernel_rfl) (fun _ _ _ h => h) (Or.inl ⟨by rfl, ?_⟩) (by assumption) ?_
      rotate_left
      · (intro w hSw; (try dsimp only at hSw); go_simp; try with_reducible rfl)
      dsimp [Act.put]
      simp only [List.setIfInBounds_toArray, List.set_cons_zero, List.set_cons_succ]
      refine wpAnyH_take (i := 5) (v := ?_) rfl (by kernel_rfl) (by kernel_rfl) (by kernel_rfl) (fun _ _ _ h => h) (Or.inl ⟨by rfl, ?_⟩) (by assumption) ?_
      rotate_left
      · (intro w hSw; (try dsimp only at hSw); go_simp; try with_reducible rfl)
      dsimp [Act.put]
      simp only [List.setIfInBounds_toArray, List.set_cons_zero, List.set_cons_succ]
      refine wpAnyH_take (i := 6) (v := ?_) rfl (by kernel_rfl) (by kernel_rfl) (by kernel_rfl) (fun _ _ _ h => h) (Or.inl ⟨by rfl, ?_⟩) (by assumption) ?_
      rotate_left
      · (intro w hSw; (try dsimp only at hSw); go_simp; try with_reducible rfl)
      dsimp [Act.put]
      simp only [List.setIfInBounds_toArray, List.set_cons_zero, List.set_cons_succ]
      refine wpAnyH_take (i := 7) (v := ?_) rfl (by kernel_rfl) (by kernel_rfl) (by kernel_rfl) (fun _ _ _ h => h) (Or.inl ⟨by rfl, ?_⟩) (by assumption) ?_
      rotate_left
      · (intro w hSw; (try dsimp only at hSw); go_simp; try with_reducible rfl)
      dsimp [Act.put]
      simp only [List.setIfInBounds_toArray, List.set_cons_zero, List.set_cons_succ]
      refine wpAnyH_take (i := 8) (v := ?_) rfl (by kernel_rfl) (by kernel_rfl) (by kernel_rfl) (fun _ _ _ h => h) (Or.inl ⟨by rfl, ?_⟩) (by assumption) ?_
      rotate_left
      · (intro w hSw; (try dsimp only at hSw); go_simp; try with_reducible rfl)
      dsimp [Act.put]
      simp only [List.setIfInBounds_toArray, List.set_cons_zero, List.set_cons_succ]
      refine wpAnyH_ready (rs := [3, 9]) (by kernel_rfl) (by simp) ?_
      refine AllReadyH.cons rfl (fun K hK => ?_) ?_
      · go_simp
        refine hK.out _ _ ?_ (fun hHeld => ?_)
        · (refine HKp.out _ ?_ ?_ <;> repeat (first | exact HPn.out | exact HAn.out | apply Bk.alloc | apply Bk.more | apply Bk.drewN | apply Bk.drew | (refine Bk.set_other ?_ _ _ _ HNe2.out.1) | (refine Bk.set_other ?_ _ _ _ HNe2.out.2)))
        clear hK K
        try dsimp [Act.put]
        try simp only [List.setIfInBounds_toArray, List.set_cons_zero, List.set_cons_succ]
        refine wpAnyH_ready (rs := [9]) (by kernel_rfl) (by simp) ?_
        refine AllReadyH.cons rfl (fun K hK => ?_) ?_
        · go_simp
          ((with_reducible refine (HOj.out _ (by repeat (first | exact HMn.out | apply Mor.alloc | apply Mor.more | apply Mor.drewN | apply Mor.drew))).mono ?_); rintro e w6 ⟨rfl, bs, dr, rfl⟩)
          try go_wp2_with fail
          refine hK.out _ _ ?_ (fun hHeld => ?_)
          · (refine HKp.out _ ?_ ?_ <;> repeat (first | exact HPn.out | exact HAn.out | apply Bk.alloc | apply Bk.more | apply Bk.drewN | apply Bk.drew | (refine Bk.set_other ?_ _ _ _ HNe2.out.1) | (refine Bk.set_other ?_ _ _ _ HNe2.out.2)))
          clear hK K
          try dsimp [Act.put]
          try simp only [List.setIfInBounds_toArray, List.set_cons_zero, List.set_cons_succ]
          refine wpAnyH_take (i := 10) (v := ?_) rfl (by kernel_rfl) (by kernel_rfl) (by kernel_rfl) (fun _ _ _ h => h) (Or.inl ⟨by rfl, ?_⟩) (by assumption) ?_
          rotate_left
          · (intro w hSw; (try dsimp only at hSw); go_simp; try with_reducible rfl)
          dsimp [Act.put]
          simp only [List.setIfInBounds_toArray, List.set_cons_zero, List.set_cons_succ]
          refine wpAnyH_take (i := 11) (v := ?_) rfl (by kernel_rfl) (by kernel_rfl) (by kernel_rfl) (fun _ _ _ h => h) (Or.inl ⟨by rfl, ?_⟩) (by assumption) ?_
          rotate_left
          · (intro w hSw; (try dsimp only at hSw); go_simp; try with_reducible rfl)
          dsimp [Act.put]
          simp only [List.setIfInBounds_toArray, List.set_cons_zero, List.set_cons_succ]
          refine wpAnyH_ready (rs := [12]) (by kernel_rfl) (by simp) ?_
          refine AllReadyH.cons rfl (fun K hK => ?_) ?_
          · go_simp
            refine hK.out _ _ ?_ (fun hHeld => ?_)
            · (refine HKp.out _ ?_ ?_ <;> repeat (first | exact HPn.out | exact HAn.out | apply Bk.alloc | apply Bk.more | apply Bk.drewN | apply Bk.drew | (refine Bk.set_other ?_ _ _ _ HNe2.out.1) | (refine Bk.set_other ?_ _ _ _ HNe2.out.2)))
            clear hK K
            try dsimp [Act.put]
            refine wpAnyH_done (by kernel_rfl) ?_ _
            clear hwv
            go_wp2_with fail
            go_roundw
            case rel => exact ⟨j + 1, by omega, by go_num, HNx.out _ _⟩
            case measure => simp [intOf]; omega
          · exact AllReadyH.nil
        · exact AllReadyH.nil
      refine AllReadyH.cons rfl (fun K hK => ?_) ?_
      · go_simp
        ((with_reducible refine (HOj.out _ (by repeat (first | exact HMn.out | apply Mor.alloc | apply Mor.more | apply Mor.drewN | apply Mor.drew))).mono ?_); rintro e w6 ⟨rfl, bs, dr, rfl⟩)
        try go_wp2_with fail
        refine hK.out _ _ ?_ (fun hHeld => ?_)
        · (refine HKp.out _ ?_ ?_ <;> repeat (first | exact HPn.out | exact HAn.out | apply Bk.alloc | apply Bk.more | apply Bk.drewN | apply Bk.drew | (refine Bk.set_other ?_ _ _ _ HNe2.out.1) | (refine Bk.set_other ?_ _ _ _ HNe2.out.2)))
        clear hK K
        try dsimp [Act.put]
        try simp only [List.setIfInBounds_toArray, List.set_cons_zero, List.set_cons_succ]
        refine wpAnyH_ready (rs := [3]) (by kernel_rfl) (by simp) ?_
        refine AllReadyH.cons rfl (fun K hK => ?_) ?_
        · go_simp
          refine hK.out _ _ ?_ (fun hHeld => ?_)
          · (refine HKp.out _ ?_ ?_ <;> repeat (first | exact HPn.out | exact HAn.out | apply Bk.alloc | apply Bk.more | apply Bk.drewN | apply Bk.drew | (refine Bk.set_other ?_ _ _ _ HNe2.out.1) | (refine Bk.set_other ?_ _ _ _ HNe2.out.2)))
          clear hK K
          try dsimp [Act.put]
          try simp only [List.setIfInBounds_toArray, List.set_cons_zero, List.set_cons_succ]
          refine wpAnyH_take (i := 10) (v := ?_) rfl (by kernel_rfl) (by kernel_rfl) (by kernel_rfl) (fun _ _ _ h => h) (Or.inl ⟨by rfl, ?_⟩) (by assumption) ?_
          rotate_left
          · (intro w hSw; (try dsimp only at hSw); go_simp; try with_reducible rfl)
          dsimp [Act.put]
          simp only [List.setIfInBounds_toArray, List.set_cons_zero, List.set_cons_succ]
          refine wpAnyH_take (i := 11) (v := ?_) rfl (by kernel_rfl) (by kernel_rfl) (by kernel_rfl) (fun _ _ _ h => h) (Or.inl ⟨by rfl, ?_⟩) (by assumption) ?_
          rotate_left
          · (intro w hSw; (try dsimp only at hSw); go_simp; try with_reducible rfl)
          dsimp [Act.put]
          simp only [List.setIfInBounds_toArray, List.set_cons_zero, List.set_cons_succ]
          refine wpAnyH_ready (rs := [12]) (by kernel_rfl) (by simp) ?_
          refine AllReadyH.cons rfl (fun K hK => ?_) ?_
          · go_simp
            refine hK.out _ _ ?_ (fun hHeld => ?_)
            · (refine HKp.out _ ?_ ?_ <;> repeat (first | exact HPn.out | exact HAn.out | apply Bk.alloc | apply Bk.more | apply Bk.drewN | apply Bk.drew | (refine Bk.set_other ?_ _ _ _ HNe2.out.1) | (refine Bk.set_other ?_ _ _ _ HNe2.out.2)))
            clear hK K
            try dsimp [Act.put]
            refine wpAnyH_done (by kernel_rfl) ?_ _
            clear hwv
            go_wp2_with fail
            go_roundw
            case rel => exact ⟨j + 1, by omega, by go_num, HNx.out _ _⟩
            case measure => simp [intOf]; omega
          · exact AllReadyH.nil
        · exact AllReadyH.nil
      exact AllReadyH.nil
    · obtain rfl : j = n := by omega
      rw [HAll.out] at HH
      have e0 := HH.out.2.2.1.cell 0
      have e1 := HH.out.2.2.1.cell 1
      have e2 := HH.out.2.2.1.cell 2
      have e3 := HH.out.2.2.1.cell 3
      have e4 := HH.out.2.2.1.cell 4
      have el := HH.out.2.2.1.lt
      have r0 := HH.out.2.1.frozen 0
      have r1 := HH.out.2.1.frozen 1
      have r2 := HH.out.2.1.frozen 2
      have r3 := HH.out.2.1.frozen 3
      have r4 := HH.out.2.1.frozen 4
      have rl := HH.out.2.1.lt
      have z0 := HH.out.2.1.cell 0
      have z1 := HH.out.2.1.cell 1
      have z2 := HH.out.2.1.cell 2
      have z3 := HH.out.2.1.cell 3
      have z4 := HH.out.2.1.cell 4
      have HMw := Lib.hid HH.out.2.2.2
      have HRw := Lib.hid HH.out.2.1
      have HRb := Lib.hid HNe.out.2.2.2.1
      simp [kv] at e0 e1 e2 e3 e4 z0 z1 z2 z3 z4
      go_wp2_with fail
      have hF := (((((HRw.out.set_ 0 (.int .i64 (kS b.en f t 0 b.ac))).set_ 1 (.int .i64 (kS b.en f t 1 b.ac))).set_ 2 (.int .i64 (kS b.en f t 2 b.ac))).set_ 3 (.int .i64 (kS b.en f t 3 b.ac))).set_ 4 (.int .i64 (kS b.en f t 4 b.ac)))
      simp at hF
      have hMF := ((((HMw.out.setC HRb.out (i := 0) (u := .int .i64 (kS b.en f t 0 b.ac))).setC HRb.out (i := 1) (u := .int .i64 (kS b.en f t 1 b.ac))).setC HRb.out (i := 2) (u := .int .i64 (kS b.en f t 2 b.ac))).setC HRb.out (i := 3) (u := .int .i64 (kS b.en f t 3 b.ac))).setC HRb.out (i := 4) (u := .int .i64 (kS b.en f t 4 b.ac))
      generalize (((((wr.setCell ⟨bR, 0, none⟩ (.int .i64 (kS b.en f t 0 b.ac))).setCell ⟨bR, 1, none⟩ (.int .i64 (kS b.en f t 1 b.ac))).setCell ⟨bR, 2, none⟩ (.int .i64 (kS b.en f t 2 b.ac))).setCell ⟨bR, 3, none⟩ (.int .i64 (kS b.en f t 3 b.ac))).setCell ⟨bR, 4, none⟩ (.int .i64 (kS b.en f t 4 b.ac))) = wf at *
      have f0 := hF.cell 0
      have f1 := hF.cell 1
      have f2 := hF.cell 2
      have f3 := hF.cell 3
      have f4 := hF.cell 4
      have fl := hF.lt
      simp at f0 f1 f2 f3 f4
      have HMF := Lib.hid hMF
      clear hF hMF
      (try simp only [Exit.inBlock, Exit.then])
      refine bodyPost_ret (v := .agg #[.int .i64 (kS b.en f t 0 b.ac), .int .i64 (kS b.en f t 1 b.ac), .int .i64 (kS b.en f t 2 b.ac), .int .i64 (kS b.en f t 3 b.ac), .int .i64 (kS b.en f t 4 b.ac)]) ?_ rfl ?_
      · simp [results, Try.results55, go_sem, f0, f1, f2, f3, f4]
      exact ⟨rfl, HMF.out⟩

end Go.Proofs.Ytdpphneebikdpaa

/- The walks of trial.Profit and trial.Sheet. -/
namespace Go.Proofs.Ytdpphneebikdpaa
open Go.ChangeShapes Go.WideShapes Go.ChangeAt Go.RowKit Go.PlainAid
set_option linter.unusedVariables false
set_option maxRecDepth 100000

def profc (b : Bok) (f t : Int) : Int := if lookc b f ≠ 0 then lookc b f else if (t < 0 ∨ 292193 < t) ∨ t < f then 1 else 0
def profv (b : Bok) (f t : Int) : Int := - kS b.en f t 3 b.ac - kS b.en f t 4 b.ac
theorem profc_zero {b : Bok} {f t : Int} (h : profc b f t = 0) : BOk b ∧ 0 ≤ f ∧ f ≤ t ∧ t ≤ 292193 := by
  unfold profc at h
  by_cases h1 : lookc b f = 0
  · rw [if_neg (by simp [h1])] at h
    obtain ⟨h2, h3, h4⟩ := lookc_zero h1
    by_cases h5 : (t < 0 ∨ 292193 < t) ∨ t < f
    · rw [if_pos h5] at h; omega
    · exact ⟨h2, by omega, by omega, by omega⟩
  · rw [if_pos h1] at h; exact absurd h h1
theorem profc_of {b : Bok} {f t : Int} (h1 : BOk b) (h2 : 0 ≤ f) (h3 : f ≤ t) (h4 : t ≤ 292193) : profc b f t = 0 := by
  unfold profc; rw [if_neg (by simp [lookc_of h1 h2 (Int.le_trans h3 h4)]), if_neg (by omega)]
theorem kS_bdb {b : Bok} (h : BOk b) (f t : Int) (q : Nat) : -17280000000000000 ≤ kS b.en f t q b.ac ∧ kS b.en f t q b.ac ≤ 17280000000000000 := by
  have h1 := kS_bd h.enc h.len f t q b.ac
  have h2 := (acc_ok h.ac).1
  omega
set_option maxRecDepth 100000 in
set_option maxHeartbeats 3200000 in
theorem profit_ok (A : Option Addr) (n c : Nat) (X : Option Addr) (m k : Nat) (b : Bok) (f t : Int) (w : World) (h : Bq w A n c X m k b) (hl : profc b f t = 0) :
    Calls Try.prog 25 #[bv A n c X m k b.shut, .int .i64 f, .int .i64 t] w fun e w' => e = .returned (.tuple #[.int .i64 (profv b f t), .int .i64 0]) ∧ Mor w w' := by
  obtain ⟨hbo, h0, h1, h9⟩ := profc_zero hl
  have HL := Lib.hid (fun w' (hm : Mor w w') => look_any A n c X m k b f w' (h.mor hm))
  rw [lookc_of hbo h0 (Int.le_trans h1 h9)] at HL
  have HD := Lib.hid (fun w => cis_any t w)
  rw [show (decide (0 ≤ t) && decide (t ≤ 292193)) = true by simp; omega] at HD
  have HK := Lib.hid (fun w' (hm : Mor w w') => show Calls Try.prog 55 #[bv A n c X m k b.shut, .int .i64 f, .int .i64 t] w' fun e w'' => e = .returned (.agg #[.int .i64 (kS b.en f t 0 b.ac), .int .i64 (kS b.en f t 1 b.ac), .int .i64 (kS b.en f t 2 b.ac), .int .i64 (kS b.en f t 3 b.ac), .int .i64 (kS b.en f t 4 b.ac)]) ∧ Mor w' w'' from kinds_any A n c X m k b f t w' (h.mor hm) hbo)
  obtain ⟨a1, a2⟩ := kS_bdb hbo f t 3
  obtain ⟨a3, a4⟩ := kS_bdb hbo f t 4
  have hltf : ¬ t < f := by omega
  unfold profv
  generalize kS b.en f t 0 b.ac = k0 at *
  generalize kS b.en f t 1 b.ac = k1 at *
  generalize kS b.en f t 2 b.ac = k2 at *
  generalize kS b.en f t 3 b.ac = k3 at *
  generalize kS b.en f t 4 b.ac = k4 at *
  generalize b.shut = sh at *
  clear h hl hbo
  go_enter Try.func25, Try.ntmps25
  go_wp2_with fail
  refine (HL.out _ (Mor.refl _).alloc).mono ?_
  rintro e w1 ⟨rfl, hm⟩
  obtain ⟨c0, c1, c2, cl⟩ := bk_book _ _ _ _ _ _ _ _ hm
  obtain ⟨bP, hbP⟩ : ∃ g, g = w.heap.size := ⟨_, rfl⟩
  rw [← hbP] at c0 c1 c2 cl ⊢
  have HM1 := Lib.hid ((Mor.refl w).alloc.trans' hm)
  clear hm hbP
  go_wp2_with (go_at_call 48; (with_reducible refine (HD.out _).mono ?_); rintro e w2 ⟨rfl, rfl⟩)
  refine (HK.out _ HM1.out).mono ?_
  rintro e w2 ⟨rfl, hm⟩
  have HM2 := Lib.hid (HM1.out.trans' hm)
  clear hm c0 c1 c2 cl
  go_wp2_with fail
  go_returns
  exact ⟨rfl, HM2.out.alloc⟩
set_option maxRecDepth 100000 in
set_option maxHeartbeats 3200000 in
theorem sheet_ok (A : Option Addr) (n c : Nat) (X : Option Addr) (m k : Nat) (b : Bok) (t : Int) (w : World) (h : Bq w A n c X m k b) (hl : lookc b t = 0) :
    Calls Try.prog 24 #[bv A n c X m k b.shut, .int .i64 t] w fun e w' => e = .returned (.tuple #[.int .i64 (kS b.en 0 t 0 b.ac), .int .i64 (-kS b.en 0 t 1 b.ac), .int .i64 (-kS b.en 0 t 2 b.ac), .int .i64 0]) ∧ Mor w w' := by
  obtain ⟨hbo, h0, h9⟩ := lookc_zero hl
  have HL := Lib.hid (fun w' (hm : Mor w w') => look_any A n c X m k b t w' (h.mor hm))
  rw [hl] at HL
  have HK := Lib.hid (fun w' (hm : Mor w w') => show Calls Try.prog 55 #[bv A n c X m k b.shut, .int .i64 0, .int .i64 t] w' fun e w'' => e = .returned (.agg #[.int .i64 (kS b.en 0 t 0 b.ac), .int .i64 (kS b.en 0 t 1 b.ac), .int .i64 (kS b.en 0 t 2 b.ac), .int .i64 (kS b.en 0 t 3 b.ac), .int .i64 (kS b.en 0 t 4 b.ac)]) ∧ Mor w' w'' from kinds_any A n c X m k b 0 t w' (h.mor hm) hbo)
  obtain ⟨a1, a2⟩ := kS_bdb hbo 0 t 1
  obtain ⟨a3, a4⟩ := kS_bdb hbo 0 t 2
  generalize kS b.en 0 t 0 b.ac = k0 at *
  generalize kS b.en 0 t 1 b.ac = k1 at *
  generalize kS b.en 0 t 2 b.ac = k2 at *
  generalize kS b.en 0 t 3 b.ac = k3 at *
  generalize kS b.en 0 t 4 b.ac = k4 at *
  generalize b.shut = sh at *
  clear h hl hbo
  go_enter Try.func24, Try.ntmps24
  go_wp2_with fail
  refine (HL.out _ (Mor.refl _).alloc).mono ?_
  rintro e w1 ⟨rfl, hm⟩
  obtain ⟨c0, c1, c2, cl⟩ := bk_book _ _ _ _ _ _ _ _ hm
  obtain ⟨bP, hbP⟩ : ∃ g, g = w.heap.size := ⟨_, rfl⟩
  rw [← hbP] at c0 c1 c2 cl ⊢
  have HM1 := Lib.hid ((Mor.refl w).alloc.trans' hm)
  clear hm hbP
  go_wp2_with fail
  refine (HK.out _ HM1.out).mono ?_
  rintro e w2 ⟨rfl, hm⟩
  have HM2 := Lib.hid (HM1.out.trans' hm)
  clear hm c0 c1 c2 cl
  go_wp2_with fail
  have hG := Bk.new w2 104 #[.int .i64 k0, .int .i64 k1, .int .i64 k2, .int .i64 k3, .int .i64 k4]
  have HM3 := Lib.hid (HM2.out.alloc (o := .cells #[.int .i64 k0, .int .i64 k1, .int .i64 k2, .int .i64 k3, .int .i64 k4] 104))
  generalize w2.alloc (.cells #[.int .i64 k0, .int .i64 k1, .int .i64 k2, .int .i64 k3, .int .i64 k4] 104) = w3 at *
  generalize w2.heap.size = g at *
  have g0 := hG.cell 0
  have g1 := hG.cell 1
  have g2 := hG.cell 2
  simp at g0 g1 g2
  have hw1 : IntKind.i64.wrap (-k1) = -k1 := IntWalk.i64_in _ (by omega)
  have hw2 : IntKind.i64.wrap (-k2) = -k2 := IntWalk.i64_in _ (by omega)
  clear hG
  go_quiet (fail)
  go_wp2_with fail
  go_returns
  exact ⟨rfl, HM3.out.drewN⟩
end Go.Proofs.Ytdpphneebikdpaa

/- Plain law of TopLoan: a loan's rows that are posted. -/
namespace Go.Proofs.Ytdpphneebikdpaa
open Go.ChangeShapes Go.WideShapes Go.ChangeAt Go.RowKit Go.PlainAid
set_option linter.unusedVariables false
set_option maxRecDepth 100000

/-- the lines of a row: with interest, or without -/
def rwl (f i : Int) : List Ln := if 0 < i then [(s20, f), (s10, -f - i), (s50, i)] else [(s20, f), (s10, -f)]
/-- the book behind the loan and the first rows -/
def lnb (o r p : Int) : Nat → Bok
  | 0 => postb topB ⟨kyB 99, 0, [(s10, o), (s20, -o)]⟩
  | k + 1 => postb (lnb o r p k) ⟨kyB k, (k : Int) + 1, rwl (noff (nl o r p k) r p) (nint (nl o r p k) r)⟩
theorem rwl_linec {f i : Int} (h1 : 1 ≤ f) (h2 : f ≤ 1000000000) (h3 : 0 ≤ i) (h4 : i ≤ 1000000000) : linec (rwl f i) = 0 ∧ (∀ l ∈ rwl f i, hasB topB.ac l.1 = true) := by
  obtain ⟨c10, c15, c20, c40, c50⟩ := top_codes
  obtain ⟨b10, b15, b20, b40, b50⟩ := top_has
  unfold rwl
  split
  · refine ⟨?_, fun l hl => ?_⟩
    · rw [linec_iff]
      refine ⟨by simp, by simp, by simp; omega, fun x hx => ?_, show [s20, s10, s50].Nodup by decide⟩
      rcases List.mem_cons.1 hx with rfl | hx
      · exact ⟨c20, by simp only; omega, by simp only; omega, by simp only; omega⟩
      · rcases List.mem_cons.1 hx with rfl | hx
        · exact ⟨c10, by simp only; omega, by simp only; omega, by simp only; omega⟩
        · rw [List.mem_singleton.1 hx]
          exact ⟨c50, by simp only; omega, by simp only; omega, by simp only; omega⟩
    · rcases List.mem_cons.1 hl with rfl | hl
      · exact b20
      · rcases List.mem_cons.1 hl with rfl | hl
        · exact b10
        · rw [List.mem_singleton.1 hl]; exact b50
  · refine ⟨two_linec c20 c10 (by decide) (by omega) (by omega) (by omega), fun l hl => ?_⟩
    rcases List.mem_cons.1 hl with rfl | hl
    · exact b20
    · rw [List.mem_singleton.1 hl]; exact b10
/-- what a row adds to each balance -/
theorem rwl_of (f i : Int) (k : ByteArray) {d t : Int} (h0 : 0 ≤ d) (ht : d ≤ t) (hi : 0 ≤ i) (s : ByteArray) :
    enOf s 0 t ⟨k, d, rwl f i⟩ = (if s20 = s then f else 0) + ((if s10 = s then -f - i else 0) + (if s50 = s then i else 0)) := by
  unfold enOf lnOf
  rw [if_neg (by simp only; omega)]
  unfold rwl
  split
  · simp only [sm]; omega
  · have : i = 0 := by omega
    subst this
    simp only [sm]
    split <;> split <;> split <;> omega
structure LnI (o r p : Int) (k : Nat) : Prop where
  led : Led (lnb o r p k) (fun j => j < k ∨ j = 99)
  len : (lnb o r p k).en.length ≤ k + 1
  a20 : ∀ t, (k : Int) ≤ t → ofS (lnb o r p k).en s20 0 t = -(nl o r p k)
  a10 : ∀ t, (k : Int) ≤ t → ofS (lnb o r p k).en s10 0 t = nl o r p k - nsum o r p k
  a50 : ∀ t, (k : Int) ≤ t → ofS (lnb o r p k).en s50 0 t = nsum o r p k
  other : ∀ s t, s20 ≠ s → s10 ≠ s → s50 ≠ s → (k : Int) ≤ t → ofS (lnb o r p k).en s 0 t = 0
theorem LnI.start (o r p : Int) (h1 : 1 ≤ o) (h2 : o ≤ 1000000000) : LnI o r p 0 ∧ postc topB ⟨kyB 99, 0, [(s10, o), (s20, -o)]⟩ = 0 := by
  obtain ⟨c10, c15, c20, c40, c50⟩ := top_codes
  obtain ⟨b10, b15, b20, b40, b50⟩ := top_has
  obtain ⟨p1, p2, p3, p4⟩ := (Led.start fun _ => False).post (n := 99) (by omega) (fun h => h) (d := 0) (ls := [(s10, o), (s20, -o)]) (two_linec c10 c20 (by decide) (by omega) (by omega) (by omega)) (by omega) (by omega) (fun l hl => by
    rcases List.mem_cons.1 hl with rfl | hl
    · exact b10
    · rw [List.mem_singleton.1 hl]; exact b20) (by decide)
  have z : ∀ s t, ofS topB.en s 0 t = 0 := fun _ _ => rfl
  refine ⟨⟨p2.mono fun j hj => by rcases hj with hj | hj; exact hj.elim; exact .inr hj, by show (postb _ _).en.length ≤ _; rw [p4]; exact Nat.le_refl _, fun t ht => ?_, fun t ht => ?_, fun t ht => ?_, fun s t h20 h10 h50 ht => ?_⟩, p1⟩
  all_goals
    show ofS (postb _ _).en _ 0 t = _
    rw [p3, z, two_of (by omega) (by decide), if_neg (by omega)]
  · rw [if_neg (by decide), if_pos rfl]; show (0 : Int) + -o = -o; omega
  · rw [if_pos rfl]; show (0 : Int) + o = o - 0; omega
  · rw [if_neg (by decide), if_neg (by decide)]; rfl
  · rw [if_neg h10, if_neg h20]; rfl
theorem LnI.step {o r p : Int} {k : Nat} (h : LnI o r p k) (hk : k < 40) (h1 : 1 ≤ noff (nl o r p k) r p) (h2 : noff (nl o r p k) r p ≤ 1000000000) (h3 : 0 ≤ nint (nl o r p k) r) (h4 : nint (nl o r p k) r ≤ 1000000000) :
    LnI o r p (k + 1) ∧ postc (lnb o r p k) ⟨kyB k, (k : Int) + 1, rwl (noff (nl o r p k) r p) (nint (nl o r p k) r)⟩ = 0 := by
  obtain ⟨l1, l2⟩ := rwl_linec h1 h2 h3 h4
  obtain ⟨p1, p2, p3, p4⟩ := h.led.post (n := k) (by omega) (by omega) (d := (k : Int) + 1) l1 (by omega) (by omega) l2 (by have := h.len; omega)
  refine ⟨⟨p2.mono fun j hj => by omega, by show (postb _ _).en.length ≤ _; rw [p4]; have := h.len; omega, fun t ht => ?_, fun t ht => ?_, fun t ht => ?_, fun s t g20 g10 g50 ht => ?_⟩, p1⟩
  all_goals
    show ofS (postb _ _).en _ 0 t = _
    rw [p3, rwl_of _ _ _ (by omega) (by omega) h3]
  · rw [h.a20 t (by omega), if_pos rfl, if_neg (by decide), if_neg (by decide), nl_succ]; omega
  · rw [h.a10 t (by omega), if_neg (by decide), if_pos rfl, if_neg (by decide), nl_succ]; show _ = _ - (nsum o r p k + nint (nl o r p k) r); omega
  · rw [h.a50 t (by omega), if_neg (by decide), if_neg (by decide), if_pos rfl]; show _ = nsum o r p k + nint (nl o r p k) r; omega
  · rw [h.other s t g20 g10 g50 (by omega), if_neg g20, if_neg g10, if_neg g50]; rfl
/-- what the sheet says behind all rows -/
theorem LnI.sheet {o r p : Int} {k : Nat} (h : LnI o r p k) (hk : k ≤ 50) : kS (lnb o r p k).en 0 50 0 (lnb o r p k).ac = nl o r p k - nsum o r p k ∧ -kS (lnb o r p k).en 0 50 1 (lnb o r p k).ac = nl o r p k ∧ profv (lnb o r p k) 0 50 = -nsum o r p k ∧ lookc (lnb o r p k) 50 = 0 ∧ profc (lnb o r p k) 0 50 = 0 := by
  have a20 := h.a20 50 (by omega)
  have a10 := h.a10 50 (by omega)
  have a50 := h.a50 50 (by omega)
  have a15 := h.other t15 50 (by decide) (by decide) (by decide) (by omega)
  have a40 := h.other s40 50 (by decide) (by decide) (by decide) (by omega)
  have hb := h.led.ok
  unfold profv
  rw [h.led.ac]
  unfold kS
  simp only [topB, sm]
  simp
  rw [a20, a10, a50, a15, a40]
  refine ⟨by omega, by omega, by omega, ?_, profc_of hb (by omega) (by omega) (by omega)⟩
  unfold lookc
  rw [if_neg (by simp [(bookc_iff _).2 hb]), if_neg (by omega)]

end Go.Proofs.Ytdpphneebikdpaa

/- Where a book that Post hands back lies when its variable was made ahead of it, or behind it. -/
namespace Go.Proofs.Ytdpphneebikdpaa
open Go.ChangeShapes Go.WideShapes Go.ChangeAt Go.RowKit Go.PlainAid
set_option linter.unusedVariables false
set_option maxRecDepth 100000

theorem own3 {W : World} {base g n m : Nat} {vA vX a a' a'' z z' z'' : Value} {b : Bok} (h : OwnB W base vA vX n m b) (hb : Bk W g 41 #[z, z', z'']) :
    OwnB (((W.setCell ⟨g, 0, none⟩ a).setCell ⟨g, 1, none⟩ a').setCell ⟨g, 2, none⟩ a'') base vA vX n m b :=
  ((h.setT hb).setT (hb.set_ 0 a)).setT ((hb.set_ 0 a).set_ 1 a')
end Go.Proofs.Ytdpphneebikdpaa

/- A book that entries are posted to, one after another; the walk of talkeep.made. -/
namespace Go.Proofs.Ytdpphneebikdpaa
open Go.ChangeShapes Go.WideShapes Go.ChangeAt Go.RowKit Go.PlainAid
set_option linter.unusedVariables false
set_option maxRecDepth 100000

/-- the book behind an entry, be it refused or not -/
def stepb (b : Bok) (x : En) : Bok := if postc b x = 0 then postb b x else b
/-- the book behind entries -/
def madeb (b : Bok) (es : List En) : Bok := es.foldl stepb b
theorem stepb_yes {b : Bok} {x : En} (h : postc b x = 0) : stepb b x = postb b x := by unfold stepb; rw [if_pos h]
theorem stepb_no {b : Bok} {x : En} (h : postc b x ≠ 0) : stepb b x = b := by unfold stepb; rw [if_neg h]
theorem madeb_take (b : Bok) (es : List En) (j : Nat) (hj : j < es.length) : madeb b (es.take (j + 1)) = stepb (madeb b (es.take j)) (ne es j) := by
  unfold madeb
  rw [List.take_succ_eq_append_getElem hj, List.foldl_append, ne_eq _ _ hj]
  rfl
/-- the book is the one that came in, or one's own -/
def Hld (w : World) (A0 : Option Addr) (n c0 : Nat) (X0 : Option Addr) (m0 k0 : Nat) (b0 : Bok) (A : Option Addr) (c : Nat) (X : Option Addr) (m k : Nat) (b : Bok) : Prop :=
  (A = A0 ∧ c = c0 ∧ X = X0 ∧ m = m0 ∧ k = k0 ∧ b = b0) ∨ ∃ B, OwnB w B (.slice A n c) (.slice X m k) n m b
section
variable {w w' : World} {A0 : Option Addr} {n c0 : Nat} {X0 : Option Addr} {m0 k0 : Nat} {b0 : Bok} {A : Option Addr} {c : Nat} {X : Option Addr} {m k : Nat} {b : Bok}
theorem Hld.start : Hld w A0 n c0 X0 m0 k0 b0 A0 c0 X0 m0 k0 b0 := .inl ⟨rfl, rfl, rfl, rfl, rfl, rfl⟩
theorem Hld.mor (h : Hld w A0 n c0 X0 m0 k0 b0 A c X m k b) (hm : Mor w w') : Hld w' A0 n c0 X0 m0 k0 b0 A c X m k b := by
  rcases h with h | ⟨B, h⟩
  · exact .inl h
  · exact .inr ⟨B, h.mor hm⟩
theorem own_bq {B : Nat} (h : OwnB w B (.slice A n c) (.slice X m k) n m b) : Bq w A n c X m k b := by
  obtain ⟨A', c', X', k', e1, e2, hb⟩ := h.bq
  injection e1 with e1 _ e3
  injection e2 with e4 _ e6
  subst e1 e3 e4 e6
  exact hb
theorem Hld.bq (h : Hld w' A0 n c0 X0 m0 k0 b0 A c X m k b) (hb : Bq w A0 n c0 X0 m0 k0 b0) (hm : Mor w w') : Bq w' A n c X m k b := by
  rcases h with ⟨rfl, rfl, rfl, rfl, rfl, rfl⟩ | ⟨B, h⟩
  · exact hb.mor hm
  · exact own_bq h
theorem Hld.store {g : Nat} {z z' z'' a a' a'' : Value} (h : Hld w A0 n c0 X0 m0 k0 b0 A c X m k b) (hg : Bk w g 41 #[z, z', z'']) :
    Hld (((w.setCell ⟨g, 0, none⟩ a).setCell ⟨g, 1, none⟩ a').setCell ⟨g, 2, none⟩ a'') A0 n c0 X0 m0 k0 b0 A c X m k b := by
  rcases h with h | ⟨B, h⟩
  · exact .inl h
  · exact .inr ⟨B, own3 h hg⟩
theorem Hld.own {B : Nat} (h : OwnB w B (.slice A n c) (.slice X m k) n m b) : Hld w A0 n c0 X0 m0 k0 b0 A c X m k b := .inr ⟨B, h⟩
end
theorem postYes_own {w w' : World} {b : Bok} {e : Ending} {n : Nat} (h : PostYes w b e w') (hn : b.ac.length = n) : ∃ A c X m k, e = .returned (.tuple #[bv A n c X m k b.shut, .int .i64 0]) ∧ OwnB w' w.heap.size (.slice A n c) (.slice X m k) n m b ∧ Mor w w' := by
  obtain ⟨A, n', c, X, m, k, he, hq, ho, hm⟩ := postYes_bq h
  have e : n' = n := by rw [← hq.ac.length, hn]
  subst e
  exact ⟨A, c, X, m, k, he, ho, hm⟩

end Go.Proofs.Ytdpphneebikdpaa

/- Entries posted in whatever order: the same book. -/
namespace Go.Proofs.Ytdpphneebikdpaa
open Go.ChangeShapes Go.WideShapes Go.ChangeAt Go.RowKit Go.PlainAid
set_option linter.unusedVariables false
set_option maxRecDepth 100000

theorem nodup_le {α : Type} [DecidableEq α] {xs ys : List α} (h : xs.Nodup) (hs : ∀ a ∈ xs, a ∈ ys) : xs.length ≤ ys.length := by
  induction xs generalizing ys with
  | nil => exact Nat.zero_le _
  | cons a xs ih =>
    rw [List.nodup_cons] at h
    have ha := hs a (List.mem_cons_self ..)
    have h2 : ∀ b ∈ xs, b ∈ ys.erase a := fun b hb => (List.mem_erase_of_ne (show b ≠ a from fun e => h.1 (e ▸ hb))).2 (hs b (List.mem_cons_of_mem _ hb))
    have h3 := ih h.2 h2
    rw [List.length_erase_of_mem ha] at h3
    have := List.length_pos_of_mem ha
    simp only [List.length_cons]
    omega
theorem key_inj {es : List En} (h : es.Pairwise fun x y => x.key ≠ y.key) {x y : En} (hx : x ∈ es) (hy : y ∈ es) (hk : x.key = y.key) : x = y := by
  obtain ⟨i, _, h1, h2⟩ := find_mem h hx
  obtain ⟨j, _, h3, h4⟩ := find_mem h hy
  rw [hk, h3] at h1
  have : j = i := by omega
  subst this
  rw [← h2, ← h4]
theorem en_nodup {b : Bok} (h : BOk b) : b.en.Nodup := h.keys.imp fun {a b} hk e => hk (by rw [e])
/-- the entries that were posted -/
def donel (b : Bok) : List En → List En
  | [] => []
  | x :: xs => if postc b x = 0 then x :: donel (postb b x) xs else donel b xs
theorem donel_snoc (b : Bok) (xs : List En) (x : En) : donel b (xs ++ [x]) = donel b xs ++ if postc (madeb b xs) x = 0 then [x] else [] := by
  induction xs generalizing b with
  | nil =>
    show (if postc b x = 0 then x :: [] else []) = [] ++ if postc b x = 0 then [x] else []
    rfl
  | cons y ys ih =>
    show (if postc b y = 0 then y :: donel (postb b y) (ys ++ [x]) else donel b (ys ++ [x])) = (if postc b y = 0 then y :: donel (postb b y) ys else donel b ys) ++ if postc (madeb (stepb b y) ys) x = 0 then [x] else []
    by_cases h : postc b y = 0
    · rw [if_pos h, if_pos h, stepb_yes h, ih]; rfl
    · rw [if_neg h, if_neg h, stepb_no h, ih]
theorem donel_take (b : Bok) (es : List En) (j : Nat) (hj : j < es.length) : donel b (es.take (j + 1)) = donel b (es.take j) ++ if postc (madeb b (es.take j)) (ne es j) = 0 then [ne es j] else [] := by
  rw [List.take_succ_eq_append_getElem hj, donel_snoc, ne_eq _ _ hj]
/-- the book behind the entries that were posted -/
structure OInv (b x : Bok) (d : List En) : Prop where
  ok : BOk x
  ac : x.ac = b.ac
  sh : x.shut = b.shut
  sub : ∀ e ∈ b.en, e ∈ x.en
  din : ∀ e ∈ d, e ∈ x.en ∧ enc e = 0
  new : ∀ e ∈ x.en, e ∈ b.en ∨ (e ∈ d ∧ knownB b.ac e = true ∧ b.shut < e.day)
theorem OInv.start {b : Bok} (h : BOk b) : OInv b b [] := ⟨h, rfl, rfl, fun _ h => h, fun _ h => absurd h (by simp), fun _ h => .inl h⟩
theorem OInv.step {b x : Bok} {d : List En} (h : OInv b x d) {e : En} (hc : postc x e = 0) : OInv b (postb x e) (d ++ [e]) := by
  have hok := post_ok hc
  have hac := post_ac x e
  have he : enc e = 0 := (post_pre hc).2.1
  by_cases hf : 0 ≤ findE x.en e.key
  · obtain ⟨_, _, hin, hp⟩ := post_old hc hf
    rw [hp] at hok ⊢
    refine ⟨hok, h.ac, h.sh, h.sub, fun a ha => ?_, fun a ha => ?_⟩
    · rcases List.mem_append.1 ha with ha | ha
      · exact h.din a ha
      · rw [List.mem_singleton.1 ha]; exact ⟨hin, he⟩
    · rcases h.new a ha with h1 | ⟨h1, h2⟩
      · exact .inl h1
      · exact .inr ⟨List.mem_append.2 (.inl h1), h2⟩
  · obtain ⟨_, _, _, hkn, hd, _, hp⟩ := post_new hc hf
    refine ⟨hok, hac.1.trans h.ac, hac.2.trans h.sh, fun a ha => ?_, fun a ha => ?_, fun a ha => ?_⟩
    · rw [hp]; exact mem_ins.2 (.inr (h.sub a ha))
    · rw [hp]
      rcases List.mem_append.1 ha with ha | ha
      · exact ⟨mem_ins.2 (.inr (h.din a ha).1), (h.din a ha).2⟩
      · rw [List.mem_singleton.1 ha]; exact ⟨mem_ins.2 (.inl rfl), he⟩
    · rw [hp] at ha
      rcases mem_ins.1 ha with ha | ha
      · subst ha; exact .inr ⟨List.mem_append.2 (.inr (List.mem_singleton.2 rfl)), by rw [← h.ac]; exact hkn, by rw [← h.sh]; exact hd⟩
      · rcases h.new a ha with h1 | ⟨h1, h2⟩
        · exact .inl h1
        · exact .inr ⟨List.mem_append.2 (.inl h1), h2⟩
theorem OInv.made {b : Bok} (hb : BOk b) (es : List En) (j : Nat) (hj : j ≤ es.length) : OInv b (madeb b (es.take j)) (donel b (es.take j)) := by
  induction j with
  | zero => rw [List.take_zero]; exact OInv.start hb
  | succ j ih =>
    have h := ih (by omega)
    rw [madeb_take b es j (by omega), donel_take b es j (by omega)]
    by_cases hc : postc (madeb b (es.take j)) (ne es j) = 0
    · rw [stepb_yes hc, if_pos hc]; exact h.step hc
    · rw [stepb_no hc, if_neg hc, List.append_nil]; exact h
/-- a book on its way from b to x -/
structure Way (b x y : Bok) : Prop where
  ok : BOk y
  ac : y.ac = b.ac
  sh : y.shut = b.shut
  sub : ∀ e ∈ b.en, e ∈ y.en
  up : ∀ e ∈ y.en, e ∈ x.en
theorem Way.start {b x : Bok} {d : List En} (hb : BOk b) (h : OInv b x d) : Way b x b := ⟨hb, rfl, rfl, fun _ h => h, h.sub⟩
theorem Way.step {b x y : Bok} {d : List En} (h : OInv b x d) (hw : Way b x y) {e : En} (he : e ∈ d) :
    postc y e = 0 ∧ Way b x (postb y e) ∧ (∀ a ∈ y.en, a ∈ (postb y e).en) ∧ e ∈ (postb y e).en := by
  obtain ⟨hex, hec⟩ := h.din e he
  by_cases hin : e ∈ y.en
  · obtain ⟨h1, h2⟩ := post_again hw.ok hec hin
    rw [h2]; exact ⟨h1, hw, fun _ h => h, hin⟩
  · have hkey : ∀ z ∈ y.en, z.key ≠ e.key := fun z hz hk => hin (key_inj h.ok.keys (hw.up z hz) hex hk ▸ hz)
    have hf : ¬ 0 ≤ findE y.en e.key := by
      rcases findE_cases y.en e.key with ⟨e', _⟩ | ⟨i, hi, _, hk⟩
      · rw [e']; omega
      · exact absurd hk (hkey _ (List.getElem_mem hi))
    have hnew : knownB b.ac e = true ∧ b.shut < e.day := by
      rcases h.new e hex with h1 | ⟨_, h2⟩
      · exact absurd (hw.sub e h1) hin
      · exact h2
    have hlen : y.en.length < 60 := by
      have h1 : (e :: y.en).length ≤ x.en.length := nodup_le (List.nodup_cons.2 ⟨hin, en_nodup hw.ok⟩) (fun a ha => by
        rcases List.mem_cons.1 ha with rfl | ha
        · exact hex
        · exact hw.up a ha)
      have := h.ok.len
      simp only [List.length_cons] at h1
      omega
    have hc : postc y e = 0 := by
      unfold postc
      rw [if_neg (by simp [(bookc_iff y).2 hw.ok]), if_neg (by simp [hec]), if_neg hf, if_neg (by rw [hw.ac, hnew.1]; simp), if_neg (by rw [hw.sh]; omega), if_neg (by omega)]
    have hp : postb y e = { y with en := ins e y.en } := by unfold postb; rw [if_neg hf]
    refine ⟨hc, ⟨post_ok hc, (post_ac y e).1.trans hw.ac, (post_ac y e).2.trans hw.sh, fun a ha => ?_, fun a ha => ?_⟩, fun a ha => ?_, ?_⟩
    · rw [hp]; exact mem_ins.2 (.inr (hw.sub a ha))
    · rw [hp] at ha
      rcases mem_ins.1 ha with rfl | ha
      · exact hex
      · exact hw.up a ha
    · rw [hp]; exact mem_ins.2 (.inr ha)
    · rw [hp]; exact mem_ins.2 (.inl rfl)
end Go.Proofs.Ytdpphneebikdpaa

/- Entries kept in a slice of the call's own; a book that stays where that slice grows. -/
namespace Go.Proofs.Ytdpphneebikdpaa
open Go.ChangeShapes Go.WideShapes Go.ChangeAt Go.RowKit Go.PlainAid
set_option linter.unusedVariables false
set_option maxRecDepth 100000

/-- entries kept in a slice of one's own: each one's lines lie where they came from -/
def Dn (w0 w : World) (v : Value) (cnt : Nat) (d : List En) : Prop :=
  ∃ qs, w.ownsRow w0.heap.size 47 3 v cnt (flat ec qs) ∧ qs.length = cnt ∧ d.length = cnt ∧
    ∀ i, i < cnt → (qe qs i).key = (ne d i).key ∧ (qe qs i).day = (ne d i).day ∧ (ne d i).key.size ≤ maxLen ∧ Lq w0 (qe qs i).A (qe qs i).n (qe qs i).c (ne d i).ls
theorem Dn.start (w0 w : World) : Dn w0 w (.slice none 0 0) 0 [] := ⟨[], World.ownsRow_nil _ _ _ _, rfl, rfl, fun i hi => absurd hi (Nat.not_lt_zero _)⟩
theorem Dn.mor {w0 w w' : World} {v : Value} {cnt : Nat} {d : List En} (h : Dn w0 w v cnt d) (hm : Mor w w') : Dn w0 w' v cnt d := by
  obtain ⟨qs, h1, h2⟩ := h
  exact ⟨qs, own_mor h1 hm, h2⟩
theorem Dn.setT {w0 w : World} {v u : Value} {cnt g i : Nat} {d : List En} {cs : Array Value} (h : Dn w0 w v cnt d) (hb : Bk w g 41 cs) : Dn w0 (w.setCell ⟨g, i, none⟩ u) v cnt d := by
  obtain ⟨qs, h1, h2⟩ := h
  exact ⟨qs, own_setT h1 hb (by decide), h2⟩
theorem Dn.es {w0 w : World} {v : Value} {cnt : Nat} {d : List En} (h : Dn w0 w v cnt d) (hm : Mor w0 w) :
    ∃ X k, v = .slice X cnt k ∧ cnt ≤ k ∧ k ≤ maxLen ∧ (X = none → cnt = 0) ∧ Es w X d := by
  obtain ⟨qs, hr, hql, hdl, hen⟩ := h
  have hr2 := hr
  obtain ⟨hlen, hh | ⟨g, cap, cur, rfl, hg, hb, h1, h2, h3, h4⟩⟩ := hr2
  · obtain ⟨rfl, rfl⟩ := hh
    exact ⟨none, 0, rfl, Nat.le_refl _, by unfold maxLen; omega, fun _ => rfl, .inl (List.eq_nil_of_length_eq_zero hdl)⟩
  · refine ⟨_, cap, rfl, h1, h2, (fun h => by cases h), ?_⟩
    by_cases h0 : d = []
    · exact .inl h0
    refine .inr ⟨_, rfl, (Array.getElem?_eq_some_iff.1 hb).1, fun i hi => ?_⟩
    have hi' : i < qs.length := by rw [hql, ← hdl]; exact hi
    obtain ⟨hk, hd, hs, hl⟩ := hen i (by rw [← hdl]; exact hi)
    obtain ⟨b', o', hA', _, hc⟩ := Rd.field 3 ec_len (Rd.own hr) i hi' (by omega)
    injection hA' with hA'
    injection hA' with e1 e2
    subst e1 e2
    have c0 := hc 0 (by omega)
    have c1 := hc 1 (by omega)
    have c2 := hc 2 (by omega)
    have eq1 : qs[i] = qe qs i := (qe_eq qs i hi').symm
    rw [adds]
    refine ⟨hs, (qe qs i).A, (qe qs i).n, (qe qs i).c, ?_, ?_, ?_, hl.mor hm⟩
    · rw [← hk, ← eq1]; simpa [ec] using c0
    · rw [← hd, ← eq1]; simpa [ec] using c1
    · rw [← eq1]; simpa [ec] using c2
end Go.Proofs.Ytdpphneebikdpaa
