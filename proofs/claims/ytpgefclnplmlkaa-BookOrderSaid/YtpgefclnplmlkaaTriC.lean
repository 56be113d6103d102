/- The walk of trial.kinds: what the accounts of each kind come to. -/
import Derived.Test.YtpgefclnplmlkaaTriB
import Derived.Deep.RegionHeld3
import Derived.IntWalk
import Derived.Deep.DeepCutAuto
namespace Go.Proofs.Ytpgefclnplmlkaa
open Go.ChangeShapes Go.WideShapes Go.ChangeAt Go.RowKit Go.PlainAid
set_option linter.unusedVariables false

/-- what the accounts of one kind come to -/
def kS (es : List En) (f t : Int) (q : Nat) (ac : List Ln) : Int := sm (fun a => if a.2 = (q : Int) then ofS es a.1 f t else 0) ac
/-- an array of five -/
def kv (f : Nat → Int) : Array Value := #[.int .i64 (f 0), .int .i64 (f 1), .int .i64 (f 2), .int .i64 (f 3), .int .i64 (f 4)]
theorem kv_at (f : Nat → Int) (q : Nat) (h : q < 5) : (kv f)[q]? = some (.int .i64 (f q)) := by
  match q, h with
  | 0, _ => rfl
  | 1, _ => rfl
  | 2, _ => rfl
  | 3, _ => rfl
  | 4, _ => rfl
theorem kv_set (f f' : Nat → Int) (q : Nat) (h : q < 5) (o : Int) (hf : ∀ p, f' p = f p + if p = q then o else 0) : (kv f).setIfInBounds q (.int .i64 (f q + o)) = kv f' := by
  unfold kv
  simp only [hf]
  match q, h with
  | 0, _ => simp
  | 1, _ => simp
  | 2, _ => simp
  | 3, _ => simp
  | 4, _ => simp
theorem kS_take (es : List En) (f t : Int) (ac : List Ln) (j : Nat) (h : j < ac.length) (q : Nat) (hq : am ac j = (q : Int)) (p : Nat) :
    kS es f t p (ac.take (j + 1)) = kS es f t p (ac.take j) + if p = q then ofS es (cd ac j) f t else 0 := by
  unfold kS
  rw [sm_take _ _ _ h]
  have e2 : ac[j].2 = (q : Int) := by rw [← hq]; exact (cd_at ac j h).2.symm
  have e3 : ac[j].1 = cd ac j := (cd_at ac j h).1.symm
  rw [e2, e3]
  by_cases hp : p = q
  · subst hp; simp
  · rw [if_neg (by omega), if_neg hp]
theorem kS_bd {es : List En} (h : ∀ x ∈ es, enc x = 0) (hl : es.length ≤ 60) (f t : Int) (q : Nat) (ac : List Ln) : -720000000000000 * (ac.length : Int) ≤ kS es f t q ac ∧ kS es f t q ac ≤ 720000000000000 * ac.length := by
  have := sm_bd (f := fun a : Ln => if a.2 = (q : Int) then ofS es a.1 f t else 0) (M := 720000000000000) (xs := ac) (fun a _ => by have := ofS_bd h hl a.1 f t; split <;> omega)
  unfold kS
  omega
theorem kS_sum (es : List En) (f t : Int) (ac : List Ln) (h : ∀ a ∈ ac, 0 ≤ a.2 ∧ a.2 ≤ 4) : kS es f t 0 ac + kS es f t 1 ac + kS es f t 2 ac + kS es f t 3 ac + kS es f t 4 ac = sm (fun a => ofS es a.1 f t) ac := by
  induction ac with
  | nil => rfl
  | cons a l ih =>
    have h1 := ih (fun x hx => h x (List.mem_cons_of_mem _ hx))
    have h2 := h a (List.mem_cons_self ..)
    show ((if a.2 = ((0 : Nat) : Int) then ofS es a.1 f t else 0) + kS es f t 0 l) + ((if a.2 = ((1 : Nat) : Int) then ofS es a.1 f t else 0) + kS es f t 1 l) + ((if a.2 = ((2 : Nat) : Int) then ofS es a.1 f t else 0) + kS es f t 2 l) + ((if a.2 = ((3 : Nat) : Int) then ofS es a.1 f t else 0) + kS es f t 3 l) + ((if a.2 = ((4 : Nat) : Int) then ofS es a.1 f t else 0) + kS es f t 4 l) = ofS es a.1 f t + sm (fun a => ofS es a.1 f t) l
    have : a.2 = 0 ∨ a.2 = 1 ∨ a.2 = 2 ∨ a.2 = 3 ∨ a.2 = 4 := by omega
    rcases this with e | e | e | e | e <;> rw [e] <;> simp <;> omega

theorem Mor.setC {w w' : World} {g i : Nat} {u : Value} (h : Mor w w') (hg : w.heap.size ≤ g) : Mor w (w'.setCell ⟨g, i, none⟩ u) := Mor.of_below (h.below.setCell hg u)
theorem five_cells : Try.prog.cellsOf 91 = 5 := by kernel_rfl

set_option maxRecDepth 100000 in
set_option maxHeartbeats 3200000 in
theorem kinds_any (A : Option Addr) (n c : Nat) (X : Option Addr) (m k : Nat) (b : Bok) (f t : Int) (w : World) (h : Bq w A n c X m k b) (hbo : BOk b) :
    Calls Try.prog 56 #[bv A n c X m k b.shut, .int .i64 f, .int .i64 t] w fun e w' => e = .returned (.agg (kv fun q => kS b.en f t q b.ac)) ∧ Mor w w' := by
  have HO := Lib.hid (fun w' (hm : Mor w w') s => of_any A n c X m k b.shut b.en s f t w' (h.es.mor hm) h.length (by rw [← h.length]; exact hbo.len) hbo.enc)
  have HAc := Lib.hid (fun w' (hm : Mor w w') => h.ac.si.mor hm)
  have HN := Lib.hid h.ac.length
  have hn24 : n ≤ 24 := by rw [← h.ac.length]; exact (acc_ok hbo.ac).1
  have HK := Lib.hid (fun j (hj : j < n) => show ∃ q : Nat, q < 5 ∧ am b.ac j = (q : Int) ∧ ∀ p, kS b.en f t p (b.ac.take (j + 1)) = kS b.en f t p (b.ac.take j) + if p = q then ofS b.en (cd b.ac j) f t else 0 by
    have hj' : j < b.ac.length := by rw [h.ac.length]; exact hj
    have h2 := (acc_ok hbo.ac).2.2.1 _ (List.getElem_mem hj')
    have h3 : 0 ≤ am b.ac j ∧ am b.ac j ≤ 4 := by rw [(cd_at b.ac j hj').2]; exact h2.2
    refine ⟨(am b.ac j).toNat, by omega, by omega, kS_take _ _ _ _ _ hj' _ (by omega)⟩)
  have HSb := Lib.hid (fun s => ofS_bd hbo.enc hbo.len s f t)
  have HBk := Lib.hid (fun j (hj : j ≤ n) q => show -720000000000000 * (j : Int) ≤ kS b.en f t q (b.ac.take j) ∧ kS b.en f t q (b.ac.take j) ≤ 720000000000000 * j by
    have := kS_bd hbo.enc hbo.len f t q (b.ac.take j)
    rw [show (b.ac.take j).length = j by rw [List.length_take, h.ac.length]; omega] at this
    exact this)
  have HAll := Lib.hid (show b.ac.take n = b.ac from List.take_of_length_le (by rw [h.ac.length]; exact Nat.le_refl _))
  generalize b.shut = sh at *
  clear h hbo
  go_enter Try.func56, Try.ntmps56
  go_wp2_with fail
  have hP := ((Bk.new w 25 #[.slice A n c, .slice X m k, .int .i64 sh]).alloc (.cells #[.int .i64 0, .int .i64 0, .int .i64 0, .int .i64 0, .int .i64 0] 91)).alloc (.cells #[.int .i64 0, .int .i64 0, .int .i64 0, .int .i64 0, .int .i64 0] 91)
  have hR := (Bk.new (w.alloc (.cells #[.slice A n c, .slice X m k, .int .i64 sh] 25)) 91 #[.int .i64 0, .int .i64 0, .int .i64 0, .int .i64 0, .int .i64 0]).alloc (.cells #[.int .i64 0, .int .i64 0, .int .i64 0, .int .i64 0, .int .i64 0] 91)
  have hG := Bk.new ((w.alloc (.cells #[.slice A n c, .slice X m k, .int .i64 sh] 25)).alloc (.cells #[.int .i64 0, .int .i64 0, .int .i64 0, .int .i64 0, .int .i64 0] 91)) 91 #[.int .i64 0, .int .i64 0, .int .i64 0, .int .i64 0, .int .i64 0]
  have hM := (Mor.refl w).alloc (o := .cells #[.slice A n c, .slice X m k, .int .i64 sh] 25) |>.alloc (o := .cells #[.int .i64 0, .int .i64 0, .int .i64 0, .int .i64 0, .int .i64 0] 91) |>.alloc (o := .cells #[.int .i64 0, .int .i64 0, .int .i64 0, .int .i64 0, .int .i64 0] 91)
  rw [← sz1] at hR
  rw [← sz1, ← sz1] at hG
  generalize ((w.alloc (.cells #[.slice A n c, .slice X m k, .int .i64 sh] 25)).alloc (.cells #[.int .i64 0, .int .i64 0, .int .i64 0, .int .i64 0, .int .i64 0] 91)).alloc (.cells #[.int .i64 0, .int .i64 0, .int .i64 0, .int .i64 0, .int .i64 0] 91) = w0 at *
  obtain ⟨bP, hbP⟩ : ∃ g, g = w.heap.size := ⟨_, rfl⟩
  rw [← hbP] at hP hR hG ⊢
  obtain ⟨bR, hbR⟩ : ∃ g, g = bP + 1 := ⟨_, rfl⟩
  rw [← hbR] at hR hG ⊢
  obtain ⟨g, hbG⟩ : ∃ g, g = bR + 1 := ⟨_, rfl⟩
  rw [← hbG] at hG ⊢
  have HNe := Lib.hid (show w.heap.size ≤ g ∧ bP ≠ g ∧ bR ≠ g ∧ w.heap.size ≤ bR ∧ w.heap.size ≤ bP by omega)
  have HP := Lib.hid hP
  have HR := Lib.hid hR
  have HG := Lib.hid hG
  have HM := Lib.hid hM
  clear hP hR hG hM hbP hbR hbG
  go_loopw [13] (fun i wr => ∃ j : Nat, j ≤ n ∧ i = .int .i64 j ∧ Hid (Bk wr bP 25 #[.slice A n c, .slice X m k, .int .i64 sh] ∧ Bk wr bR 91 #[.int .i64 0, .int .i64 0, .int .i64 0, .int .i64 0, .int .i64 0] ∧ Bk wr g 91 (kv fun q => kS b.en f t q (b.ac.take j)) ∧ Mor w wr)) (fun i _ => n - (intOf i).toNat)
  case atStart => exact ⟨0, Nat.zero_le _, rfl, Lib.hid ⟨HP.out, HR.out, HG.out, HM.out⟩⟩
  case round =>
    obtain ⟨j, hj, rfl, HH⟩ := hrel
    by_cases hlt : j < n
    · have hji : (j : Int) < (n : Int) := by omega
      have hj0 : (0 : Int) ≤ (j : Int) := by omega
      obtain ⟨q, hq, ha, hstep⟩ := HK.out j hlt
      obtain ⟨x, hA, hxb, d0, d1⟩ := (HAc.out _ HH.out.2.2.2).at_ j (by rw [HN.out]; exact hlt)
      subst hA
      rw [ha] at d1
      obtain ⟨s1, s2⟩ := HSb.out (cd b.ac j)
      obtain ⟨q1, q2⟩ := HBk.out j hj q
      have HStep := Lib.hid hstep
      have hq5 : (q : Int) < 5 := by omega
      have hq0 : (0 : Int) ≤ (q : Int) := by omega
      have HOj := Lib.hid (fun w' (h : Mor w w') => HO.out w' h (cd b.ac j))
      clear hstep ha
      obtain ⟨Q, hQ⟩ : ∃ Q : Nat → Int, Q = fun q => kS b.en f t q (b.ac.take j) := ⟨_, rfl⟩
      rw [← hQ] at HH
      rw [show kS b.en f t q (b.ac.take j) = Q q by rw [hQ]] at q1 q2
      have HQ := Lib.hid hQ
      clear hQ
      generalize ofS b.en (cd b.ac j) f t = o at *
      generalize cd b.ac j = s at *
      have c0 := HH.out.1.cell 0
      have c1 := HH.out.1.cell 1
      have c2 := HH.out.1.cell 2
      have cl := HH.out.1.lt
      simp at c0 c1 c2
      have gl := HH.out.2.2.1.lt
      generalize hv : Q q = v at *
      have HV := Lib.hid hv
      clear hv
      go_wp2_with fail
      obtain ⟨hP, hR, hG, hM⟩ := HH.out
      have hA := Bk.new wr 35 #[.string s, .int .i64 q]
      have hP := hP.alloc (.cells #[.string s, .int .i64 q] 35)
      have hR := hR.alloc (.cells #[.string s, .int .i64 q] 35)
      have hG := hG.alloc (.cells #[.string s, .int .i64 q] 35)
      have hM := hM.alloc (o := .cells #[.string s, .int .i64 q] 35)
      have hne : wr.heap.size ≠ g := by omega
      generalize wr.alloc (.cells #[.string s, .int .i64 q] 35) = wn at *
      generalize wr.heap.size = bA at *
      have HKp := Lib.hid (fun w' (hP : Bk w' bP 25 #[.slice (some x) n c, .slice X m k, .int .i64 sh]) (hA : Bk w' bA 35 #[.string s, .int .i64 q]) => show w'.cell? ⟨bP, 0, none⟩ = some (.slice (some x) n c) ∧ w'.cell? ⟨bP, 1, none⟩ = some (.slice X m k) ∧ w'.cell? ⟨bP, 2, none⟩ = some (.int .i64 sh) ∧ w'.cell? ⟨bA, 0, none⟩ = some (.string s) ∧ w'.cell? ⟨bA, 1, none⟩ = some (.int .i64 q) from ⟨by rw [hP.cell]; rfl, by rw [hP.cell]; rfl, by rw [hP.cell]; rfl, by rw [hA.cell]; rfl, by rw [hA.cell]; rfl⟩)
      have HNe2 := Lib.hid (And.intro HNe.out.2.1 hne)
      have hwv : IntKind.i64.wrap (v + o) = v + o := IntWalk.i64_in _ (by omega)
      have g0 : wn.cell? ⟨g, q, none⟩ = some (.int .i64 v) := by rw [hG.cell, kv_at Q q hq, HV.out]
      have HAn := Lib.hid hA
      have HPn := Lib.hid hP
      have HRn := Lib.hid hR
      have HGn := Lib.hid hG
      have HMn := Lib.hid hM
      have al := hA.lt
      have pl := hP.lt
      have gl := hG.lt
      have gf := hG.frozen q
      obtain ⟨c0, c1, c2, a0, a1⟩ := HKp.out _ hP hA
      have HNx := Lib.hid (fun bs dr => show Hid (Bk (more (wn.setCell ⟨g, q, none⟩ (.int .i64 (v + o))) bs dr) bP 25 #[.slice (some x) n c, .slice X m k, .int .i64 sh] ∧ Bk (more (wn.setCell ⟨g, q, none⟩ (.int .i64 (v + o))) bs dr) bR 91 #[.int .i64 0, .int .i64 0, .int .i64 0, .int .i64 0, .int .i64 0] ∧ Bk (more (wn.setCell ⟨g, q, none⟩ (.int .i64 (v + o))) bs dr) g 91 (kv fun q => kS b.en f t q (b.ac.take (j + 1))) ∧ Mor w (more (wn.setCell ⟨g, q, none⟩ (.int .i64 (v + o))) bs dr)) from Lib.hid ⟨(hP.set_other _ _ _ HNe.out.2.1).more _ _, (hR.set_other _ _ _ HNe.out.2.2.1).more _ _, by
        have h2 := (hG.set_ q (.int .i64 (v + o))).more bs dr
        rw [← HV.out, kv_set Q (fun q => kS b.en f t q (b.ac.take (j + 1))) q hq o (fun p => by rw [HStep.out p, HQ.out])] at h2
        rw [← HV.out]
        exact h2, (hM.setC HNe.out.1).more⟩)
      clear hA hP hR hG hM HH d0 d1
      refine wp_region_held_drew (S := (fun w' => w'.cell? ⟨bP, 0, none⟩ = some (.slice (some x) n c) ∧ w'.cell? ⟨bP, 1, none⟩ = some (.slice X m k) ∧ w'.cell? ⟨bP, 2, none⟩ = some (.int .i64 sh) ∧ w'.cell? ⟨bA, 0, none⟩ = some (.string s) ∧ w'.cell? ⟨bA, 1, none⟩ = some (.int .i64 q))) (by kernel_rfl) ?_ (fun hHeld => ?_)
      · (refine HKp.out _ ?_ ?_ <;> repeat (first | exact HPn.out | exact HAn.out | apply Bk.alloc | apply Bk.more | apply Bk.drewN | apply Bk.drew | (refine Bk.set_other ?_ _ _ _ HNe2.out.1) | (refine Bk.set_other ?_ _ _ _ HNe2.out.2)))
      refine wpAnyH_take (i := 0) (v := ?_) rfl (by kernel_rfl) (by kernel_rfl) (by kernel_rfl) (fun _ _ _ h => h) (Or.inl ⟨by rfl, ?_⟩) (by assumption) ?_
      rotate_left
      · (intro w hSw; (try dsimp only at hSw); go_simp; try with_reducible rfl)
      dsimp [Act.put]
      simp only [List.setIfInBounds_toArray, List.set_cons_zero, List.set_cons_succ]
      refine wpAnyH_take (i := 1) (v := ?_) rfl (by kernel_rfl) (by kernel_rfl) (by kernel_rfl) (fun _ _ _ h => h) (Or.inl ⟨by rfl, ?_⟩) (by assumption) ?_
      rotate_left
      · (intro w hSw; (try dsimp only at hSw); go_simp; try with_reducible rfl)
      dsimp [Act.put]
      simp only [List.setIfInBounds_toArray, List.set_cons_zero, List.set_cons_succ]
      refine wpAnyH_take (i := 2) (v := ?_) rfl (by kernel_rfl) (by kernel_rfl) (by kernel_rfl) (fun _ _ _ h => h) (Or.inl ⟨by rfl, ?_⟩) (by assumption) ?_
      rotate_left
      · (intro w hSw; (try dsimp only at hSw); go_simp; try with_reducible rfl)
      dsimp [Act.put]
      simp only [List.setIfInBounds_toArray, List.set_cons_zero, List.set_cons_succ]
      refine wpAnyH_take (i := 4) (v := ?_) rfl (by kernel_rfl) (by kernel_rfl) (by kernel_rfl) (fun _ _ _ h => h) (Or.inl ⟨by rfl, ?_⟩) (by assumption) ?_
      rotate_left
      · (intro w hSw; (try dsimp only at hSw); go_simp; try with_reducible rfl)
      dsimp [Act.put]
      simp only [List.setIfInBounds_toArray, List.set_cons_zero, List.set_cons_succ]
      refine wpAnyH_take (i := 5) (v := ?_) rfl (by kernel_rfl) (by kernel_rfl) (by kernel_rfl) (fun _ _ _ h => h) (Or.inl ⟨by rfl, ?_⟩) (by assumption) ?_
      rotate_left
      · (intro w hSw; (try dsimp only at hSw); go_simp; try with_reducible rfl)
      dsimp [Act.put]
      simp only [List.setIfInBounds_toArray, List.set_cons_zero, List.set_cons_succ]
      refine wpAnyH_take (i := 6) (v := ?_) rfl (by kernel_rfl) (by kernel_rfl) (by kernel_rfl) (fun _ _ _ h => h) (Or.inl ⟨by rfl, ?_⟩) (by assumption) ?_
      rotate_left
      · (intro w hSw; (try dsimp only at hSw); go_simp; try with_reducible rfl)
      dsimp [Act.put]
      simp only [List.setIfInBounds_toArray, List.set_cons_zero, List.set_cons_succ]
      refine wpAnyH_take (i := 7) (v := ?_) rfl (by kernel_rfl) (by kernel_rfl) (by kernel_rfl) (fun _ _ _ h => h) (Or.inl ⟨by rfl, ?_⟩) (by assumption) ?_
      rotate_left
      · (intro w hSw; (try dsimp only at hSw); go_simp; try with_reducible rfl)
      dsimp [Act.put]
      simp only [List.setIfInBounds_toArray, List.set_cons_zero, List.set_cons_succ]
      refine wpAnyH_take (i := 8) (v := ?_) rfl (by kernel_rfl) (by kernel_rfl) (by kernel_rfl) (fun _ _ _ h => h) (Or.inl ⟨by rfl, ?_⟩) (by assumption) ?_
      rotate_left
      · (intro w hSw; (try dsimp only at hSw); go_simp; try with_reducible rfl)
      dsimp [Act.put]
      simp only [List.setIfInBounds_toArray, List.set_cons_zero, List.set_cons_succ]
      refine wpAnyH_ready (rs := [3, 9]) (by kernel_rfl) (by simp) ?_
      refine AllReadyH.cons rfl (fun K hK => ?_) ?_
      · go_simp
        refine hK.out _ _ ?_ (fun hHeld => ?_)
        · (refine HKp.out _ ?_ ?_ <;> repeat (first | exact HPn.out | exact HAn.out | apply Bk.alloc | apply Bk.more | apply Bk.drewN | apply Bk.drew | (refine Bk.set_other ?_ _ _ _ HNe2.out.1) | (refine Bk.set_other ?_ _ _ _ HNe2.out.2)))
        clear hK K
        try dsimp [Act.put]
        try simp only [List.setIfInBounds_toArray, List.set_cons_zero, List.set_cons_succ]
        refine wpAnyH_ready (rs := [9]) (by kernel_rfl) (by simp) ?_
        refine AllReadyH.cons rfl (fun K hK => ?_) ?_
        · go_simp
          ((with_reducible refine (HOj.out _ (by repeat (first | exact HMn.out | apply Mor.alloc | apply Mor.more | apply Mor.drewN | apply Mor.drew))).mono ?_); rintro e w6 ⟨rfl, bs, dr, rfl⟩)
          try go_wp2_with fail
          refine hK.out _ _ ?_ (fun hHeld => ?_)
          · (refine HKp.out _ ?_ ?_ <;> repeat (first | exact HPn.out | exact HAn.out | apply Bk.alloc | apply Bk.more | apply Bk.drewN | apply Bk.drew | (refine Bk.set_other ?_ _ _ _ HNe2.out.1) | (refine Bk.set_other ?_ _ _ _ HNe2.out.2)))
          clear hK K
          try dsimp [Act.put]
          try simp only [List.setIfInBounds_toArray, List.set_cons_zero, List.set_cons_succ]
          refine wpAnyH_take (i := 10) (v := ?_) rfl (by kernel_rfl) (by kernel_rfl) (by kernel_rfl) (fun _ _ _ h => h) (Or.inl ⟨by rfl, ?_⟩) (by assumption) ?_
          rotate_left
          · (intro w hSw; (try dsimp only at hSw); go_simp; try with_reducible rfl)
          dsimp [Act.put]
          simp only [List.setIfInBounds_toArray, List.set_cons_zero, List.set_cons_succ]
          refine wpAnyH_take (i := 11) (v := ?_) rfl (by kernel_rfl) (by kernel_rfl) (by kernel_rfl) (fun _ _ _ h => h) (Or.inl ⟨by rfl, ?_⟩) (by assumption) ?_
          rotate_left
          · (intro w hSw; (try dsimp only at hSw); go_simp; try with_reducible rfl)
          dsimp [Act.put]
          simp only [List.setIfInBounds_toArray, List.set_cons_zero, List.set_cons_succ]
          refine wpAnyH_ready (rs := [12]) (by kernel_rfl) (by simp) ?_
          refine AllReadyH.cons rfl (fun K hK => ?_) ?_
          · go_simp
            refine hK.out _ _ ?_ (fun hHeld => ?_)
            · (refine HKp.out _ ?_ ?_ <;> repeat (first | exact HPn.out | exact HAn.out | apply Bk.alloc | apply Bk.more | apply Bk.drewN | apply Bk.drew | (refine Bk.set_other ?_ _ _ _ HNe2.out.1) | (refine Bk.set_other ?_ _ _ _ HNe2.out.2)))
            clear hK K
            try dsimp [Act.put]
            refine wpAnyH_done (by kernel_rfl) ?_ _
            clear hwv
            go_wp2_with fail
            go_roundw
            case rel => exact ⟨j + 1, by omega, by go_num, HNx.out _ _⟩
            case measure => simp [intOf]; omega
          · exact AllReadyH.nil
        · exact AllReadyH.nil
      refine AllReadyH.cons rfl (fun K hK => ?_) ?_
      · go_simp
        ((with_reducible refine (HOj.out _ (by repeat (first | exact HMn.out | apply Mor.alloc | apply Mor.more | apply Mor.drewN | apply Mor.drew))).mono ?_); rintro e w6 ⟨rfl, bs, dr, rfl⟩)
        try go_wp2_with fail
        refine hK.out _ _ ?_ (fun hHeld => ?_)
        · (refine HKp.out _ ?_ ?_ <;> repeat (first | exact HPn.out | exact HAn.out | apply Bk.alloc | apply Bk.more | apply Bk.drewN | apply Bk.drew | (refine Bk.set_other ?_ _ _ _ HNe2.out.1) | (refine Bk.set_other ?_ _ _ _ HNe2.out.2)))
        clear hK K
        try dsimp [Act.put]
        try simp only [List.setIfInBounds_toArray, List.set_cons_zero, List.set_cons_succ]
        refine wpAnyH_ready (rs := [3]) (by kernel_rfl) (by simp) ?_
        refine AllReadyH.cons rfl (fun K hK => ?_) ?_
        · go_simp
          refine hK.out _ _ ?_ (fun hHeld => ?_)
          · (refine HKp.out _ ?_ ?_ <;> repeat (first | exact HPn.out | exact HAn.out | apply Bk.alloc | apply Bk.more | apply Bk.drewN | apply Bk.drew | (refine Bk.set_other ?_ _ _ _ HNe2.out.1) | (refine Bk.set_other ?_ _ _ _ HNe2.out.2)))
          clear hK K
          try dsimp [Act.put]
          try simp only [List.setIfInBounds_toArray, List.set_cons_zero, List.set_cons_succ]
          refine wpAnyH_take (i := 10) (v := ?_) rfl (by kernel_rfl) (by kernel_rfl) (by kernel_rfl) (fun _ _ _ h => h) (Or.inl ⟨by rfl, ?_⟩) (by assumption) ?_
          rotate_left
          · (intro w hSw; (try dsimp only at hSw); go_simp; try with_reducible rfl)
          dsimp [Act.put]
          simp only [List.setIfInBounds_toArray, List.set_cons_zero, List.set_cons_succ]
          refine wpAnyH_take (i := 11) (v := ?_) rfl (by kernel_rfl) (by kernel_rfl) (by kernel_rfl) (fun _ _ _ h => h) (Or.inl ⟨by rfl, ?_⟩) (by assumption) ?_
          rotate_left
          · (intro w hSw; (try dsimp only at hSw); go_simp; try with_reducible rfl)
          dsimp [Act.put]
          simp only [List.setIfInBounds_toArray, List.set_cons_zero, List.set_cons_succ]
          refine wpAnyH_ready (rs := [12]) (by kernel_rfl) (by simp) ?_
          refine AllReadyH.cons rfl (fun K hK => ?_) ?_
          · go_simp
            refine hK.out _ _ ?_ (fun hHeld => ?_)
            · (refine HKp.out _ ?_ ?_ <;> repeat (first | exact HPn.out | exact HAn.out | apply Bk.alloc | apply Bk.more | apply Bk.drewN | apply Bk.drew | (refine Bk.set_other ?_ _ _ _ HNe2.out.1) | (refine Bk.set_other ?_ _ _ _ HNe2.out.2)))
            clear hK K
            try dsimp [Act.put]
            refine wpAnyH_done (by kernel_rfl) ?_ _
            clear hwv
            go_wp2_with fail
            go_roundw
            case rel => exact ⟨j + 1, by omega, by go_num, HNx.out _ _⟩
            case measure => simp [intOf]; omega
          · exact AllReadyH.nil
        · exact AllReadyH.nil
      exact AllReadyH.nil
    · obtain rfl : j = n := by omega
      rw [HAll.out] at HH
      have e0 := HH.out.2.2.1.cell 0
      have e1 := HH.out.2.2.1.cell 1
      have e2 := HH.out.2.2.1.cell 2
      have e3 := HH.out.2.2.1.cell 3
      have e4 := HH.out.2.2.1.cell 4
      have el := HH.out.2.2.1.lt
      have r0 := HH.out.2.1.frozen 0
      have r1 := HH.out.2.1.frozen 1
      have r2 := HH.out.2.1.frozen 2
      have r3 := HH.out.2.1.frozen 3
      have r4 := HH.out.2.1.frozen 4
      have rl := HH.out.2.1.lt
      have z0 := HH.out.2.1.cell 0
      have z1 := HH.out.2.1.cell 1
      have z2 := HH.out.2.1.cell 2
      have z3 := HH.out.2.1.cell 3
      have z4 := HH.out.2.1.cell 4
      have HMw := Lib.hid HH.out.2.2.2
      have HRw := Lib.hid HH.out.2.1
      have HRb := Lib.hid HNe.out.2.2.2.1
      simp [kv] at e0 e1 e2 e3 e4 z0 z1 z2 z3 z4
      go_wp2_with fail
      have hF := (((((HRw.out.set_ 0 (.int .i64 (kS b.en f t 0 b.ac))).set_ 1 (.int .i64 (kS b.en f t 1 b.ac))).set_ 2 (.int .i64 (kS b.en f t 2 b.ac))).set_ 3 (.int .i64 (kS b.en f t 3 b.ac))).set_ 4 (.int .i64 (kS b.en f t 4 b.ac)))
      simp at hF
      have hMF := ((((HMw.out.setC HRb.out (i := 0) (u := .int .i64 (kS b.en f t 0 b.ac))).setC HRb.out (i := 1) (u := .int .i64 (kS b.en f t 1 b.ac))).setC HRb.out (i := 2) (u := .int .i64 (kS b.en f t 2 b.ac))).setC HRb.out (i := 3) (u := .int .i64 (kS b.en f t 3 b.ac))).setC HRb.out (i := 4) (u := .int .i64 (kS b.en f t 4 b.ac))
      generalize (((((wr.setCell ⟨bR, 0, none⟩ (.int .i64 (kS b.en f t 0 b.ac))).setCell ⟨bR, 1, none⟩ (.int .i64 (kS b.en f t 1 b.ac))).setCell ⟨bR, 2, none⟩ (.int .i64 (kS b.en f t 2 b.ac))).setCell ⟨bR, 3, none⟩ (.int .i64 (kS b.en f t 3 b.ac))).setCell ⟨bR, 4, none⟩ (.int .i64 (kS b.en f t 4 b.ac))) = wf at *
      have f0 := hF.cell 0
      have f1 := hF.cell 1
      have f2 := hF.cell 2
      have f3 := hF.cell 3
      have f4 := hF.cell 4
      have fl := hF.lt
      simp at f0 f1 f2 f3 f4
      have HMF := Lib.hid hMF
      clear hF hMF
      (try simp only [Exit.inBlock, Exit.then])
      refine bodyPost_ret (v := .agg #[.int .i64 (kS b.en f t 0 b.ac), .int .i64 (kS b.en f t 1 b.ac), .int .i64 (kS b.en f t 2 b.ac), .int .i64 (kS b.en f t 3 b.ac), .int .i64 (kS b.en f t 4 b.ac)]) ?_ rfl ?_
      · simp [results, Try.results56, go_sem, f0, f1, f2, f3, f4]
      exact ⟨rfl, HMF.out⟩

end Go.Proofs.Ytpgefclnplmlkaa
