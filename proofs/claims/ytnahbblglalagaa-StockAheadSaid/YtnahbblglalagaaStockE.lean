/- The walk of stock.Fifo, where there are not so many pieces, or moves are wrong. -/
import Derived.Test.YtnahbblglalagaaStockD
namespace Go.Proofs.Ytnahbblglalagaa
open Go.ChangeShapes Go.WideShapes Go.ChangeAt Go.RowKit Stb
set_option linter.unusedVariables false

set_option maxRecDepth 100000 in
set_option maxHeartbeats 6400000 in
theorem fifo_short (A : Option Addr) (n cap : Nat) (xs : List Pr) (w : World) (hr : Pi w A xs) (hn : xs.length = n) (hc : mvc xs = 0) (hs : fifoS xs n = none) :
    Calls Try.prog 8 #[.slice A n cap] w (FfNo w 8) := by
  obtain ⟨i0, hi, hz0, hz1, hz2⟩ := info_parts info_int'
  obtain ⟨j0, hj, hy0, hy1, hy2⟩ := info_parts info_lot
  obtain ⟨c1, c2⟩ := (mvc_iff xs).1 hc
  have n40 : n ≤ 40 := by omega
  have HC := Lib.hid (slook_any A n cap xs w hr hn (by unfold maxLen; omega))
  rw [hc] at HC
  have HR := Lib.hid hr
  have HN := Lib.hid hn
  have HOk := Lib.hid (fun k (h : k < n) => c2 k (by omega))
  have HF := Lib.hid (fun k (h : k ≤ n) s (e : fifoS xs k = some s) => fifoS_ok c2 (by omega) e)
  have HSs := Lib.hid hs
  clear hr hn hc c1 c2 hs
  go_enter Try.func8, Try.ntmps8
  go_wp2_with (first
    | (go_at_call 23; (with_reducible refine (HC.out).mono ?_); rintro e w1 ⟨rfl, hM⟩))
  have HM := Lib.hid hM
  clear hM HC
  have HW1 := Lib.hid (show w.heap.size ≤ w1.heap.size from HM.out.below.size)
  obtain ⟨bS, hbS⟩ : ∃ b, b = w1.heap.size := ⟨_, rfl⟩
  rw [← hbS]
  have hB0 := Blk.new w1 60 #[.slice none 0 0]
  have hM0 := (Mor.refl w1).alloc (o := .cells #[.slice none 0 0] 60)
  have hZ0 : (w1.alloc (.cells #[.slice none 0 0] 60)).heap.size = bS + 1 := by rw [hbS]; show (w1.heap.push _).size = _; simp
  rw [← hbS] at hB0
  generalize w1.alloc (.cells #[.slice none 0 0] 60) = w0 at *
  have HB0 := Lib.hid hB0
  have HM0 := Lib.hid (HM.out.trans' hM0)
  have HZ0 := Lib.hid hZ0
  have HbS := Lib.hid (show w.heap.size ≤ bS by rw [hbS]; exact HW1.out)
  clear hB0 hM0 hZ0 hbS HW1 HM
  go_loopw [7, 19] (fun u i wr => ∃ (k : Nat) (v : Value) (t : List Pr × List Int), k ≤ n ∧ i = .int .i64 k ∧ Hid (fifoS xs k = some t) ∧ Hid (Blk wr bS 60 #[v]) ∧ Hid (Sh wr w0.heap.size v t.1) ∧ Hid (wr.ownsRow w0.heap.size 3 1 u t.2.length (t.2.map (Value.int .i64))) ∧ Hid (On bS w0 wr)) (fun _ i _ => n - (intOf i).toNat)
  case atStart => exact ⟨0, _, ([], []), Nat.zero_le _, rfl, Lib.hid rfl, HB0, Lib.hid (Sh.nil _ _), Lib.hid (World.ownsRow_nil _ _ _ _), Lib.hid (On.refl _ _)⟩
  case round =>
    obtain ⟨k, v, t, hk, rfl, HFk, HB, HS, HU, HO⟩ := hrel
    by_cases hlt : k < n
    · have hki : (k : Int) < (n : Int) := by omega
      have hk0 : (0 : Int) ≤ (k : Int) := by omega
      have HMr := Lib.hid (mor_on HM0.out HO.out HbS.out)
      obtain ⟨x, hA, hxb, c1, c2⟩ := (HR.out.mor HMr.out).cells k (by rw [HN.out]; exact hlt)
      subst hA
      have HNx := Lib.hid (fun t' (h : fstep t (ge xs k) = some t') => show fifoS xs (k + 1) = some t' by
        show (fifoS xs k).bind (fun s => fstep s (ge xs k)) = some t'
        rw [HFk.out]; exact h)
      have hF := HF.out k (by omega) t HFk.out
      have hm := HOk.out k hlt
      have hv : wr.cell? ⟨bS, 0, none⟩ = some v := by rw [HB.out.cell]; rfl
      have hfz : wr.frozen? ⟨bS, 0, none⟩ = false := HB.out.frozen _
      have hz : bS < wr.heap.size := HB.out.lt
      have hlen := hF.len
      generalize ge xs k = p at *
      obtain ⟨d, a⟩ := p
      unfold fstep at HNx
      unfold okM at hm
      dsimp only at *
      by_cases hd : 0 < d
      · have HFk' := Lib.hid (HNx.out _ (by rw [if_pos hd]))
        have d1 : d ≤ 1000000 := by omega
        clear hm
        go_wp2_with (at_builtin; refine wpList_append_sh rfl _ _ 60 rfl w0.heap.size v t.1 ((HS.out.alloc _).alloc _) Try.underlying60 ⟨wr.heap.size + 1, 0, none⟩ 1 (d, a) rfl rfl (two_at _ _ _ (size_al _ _)) (by have := HO.out.size; simp; omega) (by omega) ?_; intro v' w2 hs2 ht2; obtain ⟨A', c', hv'⟩ := hs2.len; subst hv'; obtain ⟨q1, q2⟩ := tk_all HZ0.out HO.out HB.out ht2; have HS2 := Lib.hid hs2; have HU2 := Lib.hid (own_tk ((HU.out.alloc _).alloc _) (ht2 bS) (by have := HZ0.out; omega)); have HO2 := Lib.hid q1; have HB2 := Lib.hid q2; have hv2 : w2.cell? ⟨bS, 0, none⟩ = some v := (by rw [q2.cell]; rfl); have hf2 : w2.frozen? ⟨bS, 0, none⟩ = false := q2.frozen _; clear hs2 ht2 q1 q2)
        have HS3 := Lib.hid (show Sh (w2.setCell ⟨bS, 0, none⟩ (.slice A' (t.1.length + 1) c')) w0.heap.size (.slice A' (t.1.length + 1) c') (t.1 ++ [(d, a)]) from by
          have h := HS2.out
          rw [List.length_append] at h
          exact h.same fun g cur hb _ => Below.heap_setCell _ _ _ _ (show g ≠ bS by have := HZ0.out; omega))
        exact ⟨⟨k + 1, _, (t.1 ++ [(d, a)], t.2), by omega, by go_num, HFk', Lib.hid (HB2.out.set_ 0 _), HS3, Lib.hid (own_tk (base := 0) HU2.out (Tk.refl _ bS 0).setVar (by have := HZ0.out; omega)), Lib.hid (HO2.out.setCell _)⟩, by simp [intOf]; omega⟩
      · have hTk := take_any bS w0.heap.size v t.1 (-d) (wr.alloc (.cells #[.int .i64 d, .int .i64 a] 29)) (HB.out.alloc _) (HS.out.alloc _) (by have := HZ0.out; omega) hF.ok (by omega) (by omega) (by omega)
        have hlt2 := hF.outs
        have hng := negs_le xs k
        have dm : -1000000 ≤ d := by omega
        have dn : d < 0 := by omega
        cases hq : takeF t.1 (-d) with
        | none =>
          have HT := Lib.hid (hTk.mono (R' := fun e w' => e = .returned (.tuple #[.int .i64 0, .bool false]) ∧ Tk (wr.alloc (.cells #[.int .i64 d, .int .i64 a] 29)) w' bS w0.heap.size) (by
            rintro e w' ⟨h1, ⟨_, h2⟩ | ⟨c', ys', v', h2, _⟩⟩
            · exact ⟨h2, h1⟩
            · rw [hq] at h2; cases h2))
          clear hTk hm hd hq
          go_wp2_with (first
            | (go_at_call 25; (with_reducible refine (HT.out).mono ?_); rintro e w2 ⟨rfl, ht2⟩; have HO2 := Lib.hid (on_tk (HO.out.mor (Mor.refl _).alloc) ht2); clear ht2))
          go_returns
          exact ⟨rfl, mor_on HM0.out HO2.out HbS.out⟩
        | some cy =>
          obtain ⟨cc, ys⟩ := cy
          have HFk' := Lib.hid (HNx.out (ys, t.2 ++ [cc]) (by rw [if_neg hd, hq]; rfl))
          have htk := hq
          have HT := Lib.hid (hTk.mono (R' := fun e w' => e = .returned (.tuple #[.int .i64 cc, .bool true]) ∧ Tk (wr.alloc (.cells #[.int .i64 d, .int .i64 a] 29)) w' bS w0.heap.size ∧ ∃ v', Blk w' bS 60 #[v'] ∧ Sh w' w0.heap.size v' ys) (by
            rintro e w' ⟨h1, ⟨h2, _⟩ | ⟨c', ys', v', h2, h3, h4, h5⟩⟩
            · rw [htk] at h2; cases h2
            · rw [htk] at h2
              injection h2 with h2
              injection h2 with e1 e2
              subst e1 e2
              exact ⟨h3, h1, v', h4, h5⟩))
          clear hTk hm hd hq htk
          go_wp2_with (first
            | (go_at_call 25; (with_reducible refine (HT.out).mono ?_); rintro e w2 ⟨rfl, ht2, v', hb2, hs2⟩; have HO2 := Lib.hid (on_tk (HO.out.mor (Mor.refl _).alloc) ht2); have HU2 := Lib.hid (own_tk (HU.out.alloc _) ht2 (by have := HZ0.out; omega)); have HB2 := Lib.hid hb2; have HS2 := Lib.hid hs2; clear ht2 hb2 hs2)
            | (at_builtin; refine wpList_append_own _ rfl _ _ 23 rfl w0.heap.size 3 i0 (.int .i64 0) 1 8 Try.underlying23 hi hz0 hz1 hz2 rfl (by decide) _ _ _ rfl (HU2.out.alloc _) ⟨w2.heap.size, 0, none⟩ 1 1 [.int .i64 cc] rfl rfl (one_lit _ _ _) (by intro u hu; simp at hu; subst hu; rfl) (by unfold maxLen; omega) (by omega) (by have := HO2.out.size; simp; omega) ?_; intro u' w3 hu3 hg3 _; have HU3 := Lib.hid hu3; have HO3 := Lib.hid (on_grown (HO2.out.mor (Mor.refl _).alloc) (HU2.out.alloc _) hg3); have HB3 := Lib.hid (blk_grown (HB2.out.alloc _) (HU2.out.alloc _) (by have := HZ0.out; omega) hg3); have HS3 := Lib.hid (sh_grown (HS2.out.alloc _) (HU2.out.alloc _) hg3); clear hu3 hg3))
          exact ⟨⟨k + 1, v', (ys, t.2 ++ [cc]), by omega, by go_num, HFk', HB3, HS3, Lib.hid (by
            have h := HU3.out
            rw [List.length_append, List.map_append]
            exact h), HO3⟩, by simp [intOf]; omega⟩
    · obtain rfl : k = n := by omega
      have h := HFk.out
      rw [HSs.out] at h
      cases h

set_option maxHeartbeats 1600000 in
theorem fifo_bad (A : Option Addr) (n cap : Nat) (xs : List Pr) (w : World) (hr : Pi w A xs) (hn : xs.length = n) (hml : n ≤ maxLen) (hc : mvc xs ≠ 0) :
    Calls Try.prog 8 #[.slice A n cap] w (FfNo w (mvc xs)) := by
  have HC := Lib.hid (slook_any A n cap xs w hr hn hml)
  have hc' : (mvc xs == 0) = false := by simpa using hc
  generalize mvc xs = c at *
  clear hr hn hml hc
  go_enter Try.func8, Try.ntmps8
  go_wp2_with (first
    | (go_at_call 23; (with_reducible refine (HC.out).mono ?_); rintro e w1 ⟨rfl, hM⟩))
  go_returns
  exact ⟨rfl, hM⟩
/-- what is wrong -/
def fifoc (xs : List Pr) : Int := if mvc xs ≠ 0 then mvc xs else if (fifoS xs xs.length).isNone then 8 else 0
theorem fifo_no (A : Option Addr) (n cap : Nat) (xs : List Pr) (w : World) (hr : Pi w A xs) (hn : xs.length = n) (hml : n ≤ maxLen) (hc : fifoc xs ≠ 0) :
    Calls Try.prog 8 #[.slice A n cap] w (FfNo w (fifoc xs)) := by
  by_cases h : mvc xs = 0
  · have e : fifoc xs = if (fifoS xs xs.length).isNone then 8 else 0 := by unfold fifoc; rw [if_neg (by simp [h])]
    rw [e] at hc ⊢
    cases hq : fifoS xs xs.length with
    | none => rw [if_pos (by rfl)]; exact fifo_short A n cap xs w hr hn h (by rw [← hn]; exact hq)
    | some s => rw [hq] at hc; exact absurd rfl hc
  · have e : fifoc xs = mvc xs := by unfold fifoc; rw [if_pos h]
    rw [e]; exact fifo_bad A n cap xs w hr hn hml h
theorem fifoc_zero {xs : List Pr} (h : fifoc xs = 0) : mvc xs = 0 ∧ ∃ s, fifoS xs xs.length = some s := by
  unfold fifoc at h
  split at h
  · rename_i h1; exact absurd h h1
  · rename_i h1
    refine ⟨by omega, ?_⟩
    cases hq : fifoS xs xs.length with
    | none => rw [hq] at h; simp at h
    | some s => exact ⟨s, rfl⟩

end Go.Proofs.Ytnahbblglalagaa
