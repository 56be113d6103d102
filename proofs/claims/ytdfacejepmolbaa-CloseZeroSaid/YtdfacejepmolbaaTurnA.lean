/- The walks of entry.Turned, beside the texts of books (LnA in place of EntD). -/
import Derived.Test.YtdfacejepmolbaaLnA
import Derived.Test.YtdfacejepmolbaaOwnA
import Derived.Test.YtdfacejepmolbaaEntC
import Derived.Test.YtdfacejepmolbaaMem
import Derived.WalkSpells
import Derived.Test.YtdfacejepmolbaaBlk
namespace Go.Proofs.Ytdfacejepmolbaa
open Go.ChangeShapes Go.WideShapes Go.ChangeAt Go.RowKit Go.PlainAid
set_option linter.unusedVariables false

/-- what entry.Turned hands back where all is right -/
def TurnedPost (w : World) (key : ByteArray) (day : Int) (n : Nat) (ys : List Ln) (e : Ending) (w' : World) : Prop :=
  ∃ A c, e = .returned (.tuple #[.agg #[.string key, .int .i64 day, .slice A n c], .int .i64 0]) ∧ Lq w' A n c ys ∧ Mor w w'

set_option maxRecDepth 100000 in
set_option maxHeartbeats 3200000 in
theorem turned_ok (key0 : ByteArray) (day0 : Int) (A : Option Addr) (n cap : Nat) (xs : List Ln) (key : ByteArray) (day : Int) (w : World) (hk0 : key0.size ≤ maxLen) (hr : Si w A xs) (hn : xs.length = n) (hcap : n ≤ cap) (hml : n ≤ maxLen) (hs : ∀ i, i < n → (cd xs i).size ≤ maxLen)
    (hk : key.size ≤ maxLen) (hc : entc key0 day0 xs = 0) (hkb : keyB key = true) (d0 : 0 ≤ day) (d9 : day ≤ 292193) (h12 : n ≤ 12) :
    Calls Try.prog 27 #[.agg #[.string key0, .int .i64 day0, .slice A n cap], .string key, .int .i64 day] w (TurnedPost w key day n (turn xs)) := by
  obtain ⟨i0, hi, hz0, hz1, hz2⟩ := info_parts info_line
  have HC := Lib.hid (fun w (h : Si w A xs) => check_any key0 day0 A n cap xs w hk0 h hn hcap hml hs)
  rw [hc] at HC
  have HK := Lib.hid (fun w => key_any key w hk)
  rw [hkb] at HK
  have HD := Lib.hid (fun w => cis_any day w)
  rw [show (decide (0 ≤ day) && decide (day ≤ 292193)) = true by simp; omega] at HD
  have HR := Lib.hid hr
  have HN := Lib.hid hn
  obtain ⟨_, _, _, hlc⟩ := entc_ok hc
  have HAB := Lib.hid (fun k (hk : k < n) => show -1000000000000 ≤ am xs k ∧ am xs k ≤ 1000000000000 from by
    have h := lnAt_ok ((linec_ok hlc).2.2.2 k (by omega))
    exact ⟨h.2.1, h.2.2.1⟩)
  have HS := Lib.hid hs
  clear hr hs hc hkb hn hlc
  go_enter Try.func27, Try.ntmps27
  go_wp2_with fail
  refine (HC.out _ HR.out.alloc.alloc).mono ?_
  rintro e w1 ⟨rfl, hm⟩
  obtain ⟨bs, dr, rfl⟩ := hm
  go_wp2_with (first | (go_at_call 37; (with_reducible refine (HK.out _).mono ?_); rintro e w1 ⟨rfl, rfl⟩) | (go_at_call 29; (with_reducible refine (HD.out _).mono ?_); rintro e w1 ⟨rfl, rfl⟩))
  obtain ⟨wB, hwB⟩ : ∃ wB : World, wB = ((more ((w.alloc (.cells #[.string key0, .int .i64 day0, .slice A n cap] 32)).alloc (.cells #[.string { data := #[] }, .int .i64 0, .slice none 0 0] 32)) bs dr).alloc (.cells #[.string key, .int .i64 day, .slice none 0 0] 32)) := ⟨_, rfl⟩
  rw [← hwB]
  have hw1 : (w.alloc (.cells #[.string key0, .int .i64 day0, .slice A n cap] 32)).heap.size = w.heap.size + 1 := by show (w.heap.push _).size = _; rw [Array.size_push]
  obtain ⟨g9, hg9⟩ : ∃ g, g = w.heap.size + 1 + 1 + bs.length := ⟨_, rfl⟩
  obtain ⟨g6, hg6⟩ : ∃ g, g = w.heap.size + 1 := ⟨_, rfl⟩
  rw [← hg9, ← hg6]
  have hB6 : Bk wB g6 32 #[.string { data := #[] }, .int .i64 0, .slice none 0 0] := by
    rw [hwB, hg6, ← hw1]; exact ((Bk.new _ _ _).more _ _).alloc _
  have hw2 : (more ((w.alloc (.cells #[.string key0, .int .i64 day0, .slice A n cap] 32)).alloc (.cells #[.string { data := #[] }, .int .i64 0, .slice none 0 0] 32)) bs dr).heap.size = g9 := by
    rw [size_more, hg9]
    congr 1
    show ((w.heap.push _).push _).size = _
    rw [Array.size_push, Array.size_push]
  have hB9 : Bk wB g9 32 #[.string key, .int .i64 day, .slice none 0 0] := by
    rw [hwB, ← hw2]; exact Bk.new _ _ _
  have hMB : Mor w wB := by rw [hwB]; exact ((Mor.refl _).alloc.alloc.more).alloc
  have hne : g6 ≠ g9 := by omega
  have hw6 : w.heap.size ≤ g6 := by omega
  have hw9 : w.heap.size ≤ g9 := by omega
  clear hw1 hw2 hwB hg9 hg6
  obtain ⟨hl6, hl9⟩ : g6 < wB.heap.size ∧ g9 < wB.heap.size := ⟨hB6.lt, hB9.lt⟩
  have HNE := Lib.hid hne
  clear hne
  go_loopw [32] (fun i wr => ∃ k : Nat, k ≤ n ∧ i = .int .i64 k ∧ Hid (∃ v, Bk wr g9 32 #[.string key, .int .i64 day, v] ∧ wr.ownsRow wB.heap.size 41 2 v k (flat pc (turn (xs.take k))) ∧ Bk wr g6 32 #[.string { data := #[] }, .int .i64 0, .slice none 0 0] ∧ Below w.heap.size w wr ∧ wB.heap.size ≤ wr.heap.size)) (fun i _ => n - (intOf i).toNat)
  case atStart => exact ⟨0, Nat.zero_le _, rfl, Lib.hid ⟨_, hB9, World.ownsRow_nil _ _ _ _, hB6, hMB.below, Nat.le_refl _⟩⟩
  case round =>
    clear hB6 hB9
    obtain ⟨k, hk, rfl, HQ⟩ := hrel
    obtain ⟨v, b9, ho, b6, hx, hBs⟩ := HQ.out
    obtain ⟨A', c', rfl, hc', _, _⟩ := own_shape ho
    have cz := b9.cell 2
    simp at cz
    have hl9' : g9 < wr.heap.size := by omega
    by_cases hlt : k < n
    · have hki : (k : Int) < (n : Int) := by omega
      have hk0 : (0 : Int) ≤ (k : Int) := by omega
      obtain ⟨x, hA, hxb, c1, c2⟩ := (HR.out.mor (Mor.of_below hx)).at_ k (by rw [HN.out]; exact hlt)
      subst hA
      obtain ⟨z1, z2⟩ := HAB.out k hlt
      have HT := Lib.hid (turn_take xs k (by rw [HN.out]; exact hlt))
      have HO := Lib.hid ho
      have H9 := Lib.hid b9
      have H6 := Lib.hid b6
      have HX := Lib.hid hx
      generalize cd xs k = s at *
      generalize am xs k = a at *
      clear ho b9 b6 hx HQ
      go_wp2_with (at_builtin; refine wpList_append_own _ rfl _ _ 30 rfl wB.heap.size 41 i0 (.agg #[.string { data := #[] }, .int .i64 0]) 2 24 Try.underlying30 hi hz0 hz1 hz2 rfl (by decide) _ _ _ rfl ((HO.out.alloc _).alloc _) ⟨wr.heap.size + 1, 0, none⟩ 1 1 [.string s, .int .i64 (-a)] rfl rfl ?_ ?_ ?_ ?_ ?_ ?_)
      case refine_6 =>
        intro v' w1 hown' hgrow _
        obtain ⟨A2, c2', rfl, _, _, _⟩ := own_shape hown'
        have hbel := (Below.refl wB.heap.size ((wr.alloc (.cells #[.string s, .int .i64 (-a)] 41)).alloc (.cells #[.string s, .int .i64 (-a)] 41))).grown hgrow (by show _ ≤ ((wr.heap.push _).push _).size; rw [Array.size_push, Array.size_push]; omega) (by
          intro j hj
          obtain ⟨_, h | ⟨g, cap, cur, hv, hg, _⟩⟩ := HO.out
          · rw [h.1] at hj; simp [Value.ownBlock] at hj
          · rw [hv] at hj; simp [Value.ownBlock] at hj; omega)
        have b9' := ((H9.out.alloc _).alloc _).below hbel hl9
        have b6' := ((H6.out.alloc _).alloc _).below hbel hl6
        have cz' := b9'.cell 2
        have fz' := b9'.frozen 2
        simp at cz'
        have HO' := Lib.hid hown'
        have H9' := Lib.hid b9'
        have H6' := Lib.hid b6'
        have HX' := Lib.hid (show Below w.heap.size w w1 from (Below.mono (HX.out.alloc (HX.out.size) _ |>.alloc (by have := HX.out.size; show _ ≤ (wr.heap.push _).size; rw [Array.size_push]; omega) _) (Nat.le_refl _)).trans (Below.mono hbel (by omega)))
        have HSz := Lib.hid hbel.size
        have hlw : g9 < w1.heap.size := b9'.lt
        clear hown' hgrow hbel b9' b6'
        go_wp2
        go_roundw
        case rel => exact ⟨k + 1, by omega, by go_num, Lib.hid ⟨.slice A2 (k + 1) c2', by have := H9'.out.set_ 2 (.slice A2 (k + 1) c2'); simpa using this, own_set (by rw [HT.out, flat_snoc]; simpa [pc] using HO'.out) hl9, H6'.out.set_other _ _ _ HNE.out, HX'.out.setCell (p := ⟨g9, 2, none⟩) hw9 _, by have := HSz.out; have e : ((wr.alloc (.cells #[.string s, .int .i64 (-a)] 41)).alloc (.cells #[.string s, .int .i64 (-a)] 41)).heap.size = wr.heap.size + 1 + 1 := (by show ((wr.heap.push _).push _).size = _; rw [Array.size_push, Array.size_push]); simp [World.setCell]; omega⟩⟩
        case measure => simp [intOf]; omega
      all_goals try (first | (exact rfl) | (intro u hu; simp at hu; rcases hu with rfl | rfl <;> rfl) | (unfold maxLen; omega) | omega | (show _ ≤ ((wr.heap.push _).push _).size; rw [Array.size_push, Array.size_push]; omega) | (intro j u hj; match j, hj with | 0, hj => simp at hj; subst hj; simp [Addr.add] | 1, hj => simp at hj; subst hj; simp [Addr.add]))
    · obtain rfl : k = n := by omega
      rw [List.take_of_length_le (by rw [HN.out]; exact Nat.le_refl _)] at ho
      have k0 := b9.cell 0
      have k1 := b9.cell 1
      have m0 := b6.cell 0
      have m1 := b6.cell 1
      have m2 := b6.cell 2
      have f0 := b6.frozen 0
      have f1 := b6.frozen 1
      have f2 := b6.frozen 2
      simp at k0 k1 m0 m1 m2
      have hl6' : g6 < wr.heap.size := by omega
      have HO := Lib.hid ho
      have HX := Lib.hid hx
      have hne := HNE.out
      have hne' : g9 ≠ g6 := fun e => hne e.symm
      have q0 := (b6.set_ 0 (.string key)).cell 0
      have q1 := ((b6.set_ 0 (.string key)).set_ 1 (.int .i64 day)).cell 1
      have q2 := (((b6.set_ 0 (.string key)).set_ 1 (.int .i64 day)).set_ 2 (.slice A' k c')).cell 2
      simp at q0 q1 q2
      clear ho b9 b6 hx HQ
      go_wp2
      (try simp only [Exit.inBlock, Exit.then])
      refine bodyPost_ret (by simp [results, Try.results27, go_sem, q0, q1, q2]; try rfl) rfl ?_
      obtain ⟨A9, c9, e9, hq9⟩ := own_lq (own_set (i := 2) (u := .slice A' k c') (own_set (i := 1) (u := .int .i64 day) (own_set (i := 0) (u := .string key) HO.out hl6) hl6) hl6) (by rw [turn_len, HN.out]) (fun i hi => by rw [cd_turn]; exact HS.out i hi)
      injection e9 with e1 _ e3
      subst e1 e3
      exact ⟨A', c', rfl, hq9, Mor.of_below (((HX.out.setCell (p := ⟨g6, 0, none⟩) hw6 _).setCell (p := ⟨g6, 1, none⟩) hw6 _).setCell (p := ⟨g6, 2, none⟩) hw6 _)⟩

/-- what entry.Turned says -/
def turnc (key0 : ByteArray) (day0 : Int) (xs : List Ln) (key : ByteArray) (day : Int) : Int :=
  if entc key0 day0 xs ≠ 0 then entc key0 day0 xs else if keyB key = false then 3 else if day < 0 ∨ 292193 < day then 1 else 0

set_option maxHeartbeats 3200000 in
theorem turned_no (key0 : ByteArray) (day0 : Int) (A : Option Addr) (n cap : Nat) (xs : List Ln) (key : ByteArray) (day : Int) (w : World) (hk0 : key0.size ≤ maxLen) (hr : Si w A xs) (hn : xs.length = n) (hcap : n ≤ cap) (hml : n ≤ maxLen) (hs : ∀ i, i < n → (cd xs i).size ≤ maxLen)
    (hk : key.size ≤ maxLen) (hc : turnc key0 day0 xs key day ≠ 0) :
    Calls Try.prog 27 #[.agg #[.string key0, .int .i64 day0, .slice A n cap], .string key, .int .i64 day] w fun e w' => e = .returned (.tuple #[.agg #[.string { data := #[] }, .int .i64 0, .slice none 0 0], .int .i64 (turnc key0 day0 xs key day)]) ∧ Mor w w' := by
  have HC := Lib.hid (fun w (h : Si w A xs) => check_any key0 day0 A n cap xs w hk0 h hn hcap hml hs)
  have HK := Lib.hid (fun w => key_any key w hk)
  have HD := Lib.hid (fun w => cis_any day w)
  have HR := Lib.hid hr
  clear hr hs hn
  unfold turnc at hc ⊢
  by_cases h0 : entc key0 day0 xs = 0
  · rw [h0] at HC
    rw [if_neg (by simp [h0])] at hc ⊢
    cases hkb : keyB key
    · rw [hkb] at HK
      rw [if_pos rfl]
      clear hc h0 hkb
      go_enter Try.func27, Try.ntmps27
      go_wp2_with (first | (go_at_call 18; (with_reducible refine (HC.out _ HR.out.alloc.alloc).mono ?_); rintro e w1 ⟨rfl, bs, dr, rfl⟩) | (go_at_call 37; (with_reducible refine (HK.out _).mono ?_); rintro e w1 ⟨rfl, rfl⟩))
      go_returns
      exact ⟨rfl, by repeat (first | exact Mor.refl _ | apply Mor.alloc | apply Mor.more | apply Mor.drewN | apply Mor.drew)⟩
    · rw [hkb] at HK hc
      rw [if_neg (by simp)] at hc ⊢
      have hd : day < 0 ∨ 292193 < day := by
        by_cases h : day < 0 ∨ 292193 < day
        · exact h
        · rw [if_neg h] at hc; exact absurd rfl hc
      rw [if_pos hd]
      rw [show (decide (0 ≤ day) && decide (day ≤ 292193)) = false by simp; omega] at HD
      clear hc h0 hkb hd
      go_enter Try.func27, Try.ntmps27
      go_wp2_with (first | (go_at_call 18; (with_reducible refine (HC.out _ HR.out.alloc.alloc).mono ?_); rintro e w1 ⟨rfl, bs, dr, rfl⟩) | (go_at_call 37; (with_reducible refine (HK.out _).mono ?_); rintro e w1 ⟨rfl, rfl⟩) | (go_at_call 29; (with_reducible refine (HD.out _).mono ?_); rintro e w1 ⟨rfl, rfl⟩))
      go_returns
      exact ⟨rfl, by repeat (first | exact Mor.refl _ | apply Mor.alloc | apply Mor.more | apply Mor.drewN | apply Mor.drew)⟩
  · rw [if_pos h0]
    generalize entc key0 day0 xs = c at *
    have hb : (c != 0) = true := by simpa using h0
    clear hc h0
    go_enter Try.func27, Try.ntmps27
    go_wp2_with ((go_at_call 18; (with_reducible refine (HC.out _ HR.out.alloc.alloc).mono ?_); rintro e w1 ⟨rfl, bs, dr, rfl⟩))
    go_returns
    exact ⟨rfl, by repeat (first | exact Mor.refl _ | apply Mor.alloc | apply Mor.more | apply Mor.drewN | apply Mor.drew)⟩

end Go.Proofs.Ytdfacejepmolbaa
