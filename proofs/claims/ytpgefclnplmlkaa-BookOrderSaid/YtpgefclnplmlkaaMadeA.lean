/- A book that entries are posted to, one after another; the walk of talkeep.made. -/
import Derived.Test.YtpgefclnplmlkaaTriG
import Derived.Test.YtpgefclnplmlkaaBookS
namespace Go.Proofs.Ytpgefclnplmlkaa
open Go.ChangeShapes Go.WideShapes Go.ChangeAt Go.RowKit Go.PlainAid
set_option linter.unusedVariables false

/-- the book behind an entry, be it refused or not -/
def stepb (b : Bok) (x : En) : Bok := if postc b x = 0 then postb b x else b
/-- the book behind entries -/
def madeb (b : Bok) (es : List En) : Bok := es.foldl stepb b
theorem stepb_yes {b : Bok} {x : En} (h : postc b x = 0) : stepb b x = postb b x := by unfold stepb; rw [if_pos h]
theorem stepb_no {b : Bok} {x : En} (h : postc b x ≠ 0) : stepb b x = b := by unfold stepb; rw [if_neg h]
theorem madeb_take (b : Bok) (es : List En) (j : Nat) (hj : j < es.length) : madeb b (es.take (j + 1)) = stepb (madeb b (es.take j)) (ne es j) := by
  unfold madeb
  rw [List.take_succ_eq_append_getElem hj, List.foldl_append, ne_eq _ _ hj]
  rfl
theorem stepb_ac (b : Bok) (x : En) : (stepb b x).ac = b.ac ∧ (stepb b x).shut = b.shut := by
  unfold stepb
  split
  · exact post_ac b x
  · exact ⟨rfl, rfl⟩
theorem madeb_ac (b : Bok) (es : List En) : (madeb b es).ac = b.ac ∧ (madeb b es).shut = b.shut := by
  induction es generalizing b with
  | nil => exact ⟨rfl, rfl⟩
  | cons x xs ih => exact ⟨(ih (stepb b x)).1.trans (stepb_ac b x).1, (ih (stepb b x)).2.trans (stepb_ac b x).2⟩
/-- the book is the one that came in, or one's own -/
def Hld (w : World) (A0 : Option Addr) (n c0 : Nat) (X0 : Option Addr) (m0 k0 : Nat) (b0 : Bok) (A : Option Addr) (c : Nat) (X : Option Addr) (m k : Nat) (b : Bok) : Prop :=
  (A = A0 ∧ c = c0 ∧ X = X0 ∧ m = m0 ∧ k = k0 ∧ b = b0) ∨ ∃ B, OwnB w B (.slice A n c) (.slice X m k) n m b
section
variable {w w' : World} {A0 : Option Addr} {n c0 : Nat} {X0 : Option Addr} {m0 k0 : Nat} {b0 : Bok} {A : Option Addr} {c : Nat} {X : Option Addr} {m k : Nat} {b : Bok}
theorem Hld.start : Hld w A0 n c0 X0 m0 k0 b0 A0 c0 X0 m0 k0 b0 := .inl ⟨rfl, rfl, rfl, rfl, rfl, rfl⟩
theorem Hld.mor (h : Hld w A0 n c0 X0 m0 k0 b0 A c X m k b) (hm : Mor w w') : Hld w' A0 n c0 X0 m0 k0 b0 A c X m k b := by
  rcases h with h | ⟨B, h⟩
  · exact .inl h
  · exact .inr ⟨B, h.mor hm⟩
theorem own_bq {B : Nat} (h : OwnB w B (.slice A n c) (.slice X m k) n m b) : Bq w A n c X m k b := by
  obtain ⟨A', c', X', k', e1, e2, hb⟩ := h.bq
  injection e1 with e1 _ e3
  injection e2 with e4 _ e6
  subst e1 e3 e4 e6
  exact hb
theorem Hld.bq (h : Hld w' A0 n c0 X0 m0 k0 b0 A c X m k b) (hb : Bq w A0 n c0 X0 m0 k0 b0) (hm : Mor w w') : Bq w' A n c X m k b := by
  rcases h with ⟨rfl, rfl, rfl, rfl, rfl, rfl⟩ | ⟨B, h⟩
  · exact hb.mor hm
  · exact own_bq h
theorem Hld.store {g : Nat} {z z' z'' a a' a'' : Value} (h : Hld w A0 n c0 X0 m0 k0 b0 A c X m k b) (hg : Bk w g 25 #[z, z', z'']) :
    Hld (((w.setCell ⟨g, 0, none⟩ a).setCell ⟨g, 1, none⟩ a').setCell ⟨g, 2, none⟩ a'') A0 n c0 X0 m0 k0 b0 A c X m k b := by
  rcases h with h | ⟨B, h⟩
  · exact .inl h
  · exact .inr ⟨B, own3 h hg⟩
theorem Hld.own {B : Nat} (h : OwnB w B (.slice A n c) (.slice X m k) n m b) : Hld w A0 n c0 X0 m0 k0 b0 A c X m k b := .inr ⟨B, h⟩
end
theorem postYes_own {w w' : World} {b : Bok} {e : Ending} {n : Nat} (h : PostYes w b e w') (hn : b.ac.length = n) : ∃ A c X m k, e = .returned (.tuple #[bv A n c X m k b.shut, .int .i64 0]) ∧ OwnB w' w.heap.size (.slice A n c) (.slice X m k) n m b ∧ Mor w w' := by
  obtain ⟨A, n', c, X, m, k, he, hq, ho, hm⟩ := postYes_bq h
  have e : n' = n := by rw [← hq.ac.length, hn]
  subst e
  exact ⟨A, c, X, m, k, he, ho, hm⟩

set_option maxRecDepth 100000 in
set_option maxHeartbeats 3200000 in
theorem made_any (A : Option Addr) (n c : Nat) (X : Option Addr) (m k : Nat) (b : Bok) (E : Option Addr) (p q : Nat) (es : List En) (w : World) (hb : Bq w A n c X m k b) (he : Es w E es) (hl : es.length = p) (hpq : p ≤ q) (hq : q ≤ maxLen) (hnil : E = none → p = 0) :
    Calls Try.prog 30 #[bv A n c X m k b.shut, .slice E p q] w fun e w' => ∃ A' c' X' m' k', e = .returned (bv A' n c' X' m' k' b.shut) ∧ Hld w' A n c X m k b A' c' X' m' k' (madeb b (es.take 40)) ∧ Mor w w' := by
  unfold maxLen at hq
  obtain ⟨P, hP, hPp, hP40, hPe⟩ : ∃ P : Nat, min (p : Int) 40 = (P : Int) ∧ P ≤ p ∧ P ≤ 40 ∧ es.take P = es.take 40 := by
    by_cases h : p ≤ 40
    · exact ⟨p, by omega, Nat.le_refl _, h, by rw [List.take_of_length_le (by omega), List.take_of_length_le (by omega)]⟩
    · exact ⟨40, by omega, by omega, Nat.le_refl _, rfl⟩
  have hP0 : (0 : Int) ≤ (P : Int) := by omega
  have hPq : (P : Int) ≤ (q : Int) := by omega
  have HB := Lib.hid hb
  have HE := Lib.hid (fun w' (h : Mor w w') => he.mor h)
  have HN := Lib.hid hl
  have HPe := Lib.hid hPe
  have HSh := Lib.hid (fun es => (madeb_ac b es).2)
  have HAc := Lib.hid (fun es => (madeb_ac b es).1)
  generalize hsh : b.shut = sh at *
  have HB0 := Lib.hid hsh
  clear hb he hl hPe hsh
  go_enter Try.func30, Try.ntmps30
  go_wp2_with fail
  have hM0 := ((Mor.refl w).alloc (o := .cells #[.slice A n c, .slice X m k, .int .i64 sh] 25)).alloc (o := .cells #[.slice none 0 0, .slice none 0 0, .int .i64 0] 25)
  have hbP0 := (Bk.new w 25 #[.slice A n c, .slice X m k, .int .i64 sh]).alloc (.cells #[.slice none 0 0, .slice none 0 0, .int .i64 0] 25)
  have hbR0 := Bk.new (w.alloc (.cells #[.slice A n c, .slice X m k, .int .i64 sh] 25)) 25 #[.slice none 0 0, .slice none 0 0, .int .i64 0]
  rw [← sz1] at hbR0
  obtain ⟨bP, hgP⟩ : ∃ g, g = w.heap.size := ⟨_, rfl⟩
  rw [← hgP] at hbP0 hbR0 ⊢
  obtain ⟨bR, hgR⟩ : ∃ g, g = bP + 1 := ⟨_, rfl⟩
  rw [← hgR] at hbR0 ⊢
  generalize (w.alloc (.cells #[.slice A n c, .slice X m k, .int .i64 sh] 25)).alloc (.cells #[.slice none 0 0, .slice none 0 0, .int .i64 0] 25) = w0 at *
  have hgPw : w.heap.size ≤ bP := by omega
  have hgRw : w.heap.size ≤ bR := by omega
  have hPR : bP ≠ bR := by omega
  have hRP : bR ≠ bP := by omega
  clear hgP hgR
  go_loopw [15] (fun i wr => ∃ (j : Nat) (A' : Option Addr) (c' : Nat) (X' : Option Addr) (m' k' : Nat), j ≤ P ∧ i = .int .i64 j ∧ Hid (Bk wr bP 25 #[.slice A' n c', .slice X' m' k', .int .i64 sh] ∧ Bk wr bR 25 #[.slice none 0 0, .slice none 0 0, .int .i64 0] ∧ Hld wr A n c X m k b A' c' X' m' k' (madeb b (es.take j)) ∧ Mor w wr)) (fun i _ => P - (intOf i).toNat)
  case atStart => exact ⟨0, A, c, X, m, k, Nat.zero_le _, rfl, Lib.hid ⟨hbP0, hbR0, by rw [List.take_zero]; exact Hld.start, hM0⟩⟩
  case round =>
    clear hbP0 hbR0 hM0
    obtain ⟨j, A', c', X', m', k', hj, rfl, HR⟩ := hrel
    obtain ⟨hbP, hbR, hld, hm⟩ := HR.out
    have c0 := hbP.cell 0
    have c1 := hbP.cell 1
    have c2 := hbP.cell 2
    have cl := hbP.lt
    simp at c0 c1 c2
    by_cases hlt : j < P
    · have hji : (j : Int) < (P : Int) := by omega
      have hj0 : (0 : Int) ≤ (j : Int) := by omega
      have hjl : j < es.length := by rw [HN.out]; omega
      obtain ⟨x, A2, n2, c2', hE, hxb, hks, d0, d1, d2, hlq⟩ := (HE.out _ hm).at_ j hjl
      subst hE
      have HTk := Lib.hid (madeb_take b es j hjl)
      have hbq := hld.bq HB.out hm
      have hsj := HSh.out (es.take j)
      have haj := hbq.ac.length
      generalize madeb b (es.take j) = bj at *
      generalize ne es j = y at *
      obtain ⟨ky, dy, ls⟩ := y
      dsimp only at d0 d1 hks hlq
      have HPn := Lib.hid (fun w' (h : Mor wr w') (hc : postc bj ⟨ky, dy, ls⟩ ≠ 0) => show Calls Try.prog 22 #[bv A' n c' X' m' k' sh, .agg #[.string ky, .int .i64 dy, .slice A2 n2 c2']] w' (PostNo w' (postc bj ⟨ky, dy, ls⟩)) by
        have h3 := post_no A' n c' X' m' k' bj ⟨ky, dy, ls⟩ A2 n2 c2' w' (hbq.mor h) (hlq.mor h) hks hc
        rw [hsj] at h3
        exact h3)
      have HPy := Lib.hid (fun w' (h : Mor wr w') (hc : postc bj ⟨ky, dy, ls⟩ = 0) => show Calls Try.prog 22 #[bv A' n c' X' m' k' sh, .agg #[.string ky, .int .i64 dy, .slice A2 n2 c2']] w' (fun e w'' => ∃ A c X m k, e = .returned (.tuple #[bv A n c X m k sh, .int .i64 0]) ∧ OwnB w'' w'.heap.size (.slice A n c) (.slice X m k) n m (stepb bj ⟨ky, dy, ls⟩) ∧ Mor w' w'') by
        have h3 := post_yes A' n c' X' m' k' bj ⟨ky, dy, ls⟩ A2 n2 c2' w' (hbq.mor h) (hlq.mor h) hks hc
        rw [hsj] at h3
        refine h3.mono fun e w'' h => ?_
        obtain ⟨A9, c9, X9, m9, k9, he, ho, hm9⟩ := postYes_own h (n := n) (by rw [(post_ac _ _).1]; exact haj)
        rw [(post_ac _ _).2, hsj] at he
        exact ⟨A9, c9, X9, m9, k9, he, by rw [stepb_yes hc]; exact ho, hm9⟩)
      have HR2 := Lib.hid (fun w' (h : Mor wr w') => And.intro (hbP.mor h) (And.intro (hbR.mor h) (And.intro (hld.mor h) (hm.trans' h))))
      clear hbP hbR hld hm hbq hlq haj hsj HR
      by_cases hc : postc bj ⟨ky, dy, ls⟩ = 0
      · have HP := Lib.hid (fun w' h => HPy.out w' h hc)
        clear hc HPn HPy
        go_wp2_with fail
        refine (HP.out _ (Mor.refl _).alloc).mono ?_
        rintro e w4 ⟨A9, c9, X9, m9, k9, rfl, ho, hm4⟩
        obtain ⟨hbP, hbR, -, hm⟩ := HR2.out _ ((Mor.refl _).alloc.trans' hm4)
        have HO := Lib.hid ho
        have HP4 := Lib.hid hbP
        have HR4 := Lib.hid hbR
        have HM4 := Lib.hid hm
        have cl := hbP.lt
        have f0 := hbP.frozen 0
        have f1 := hbP.frozen 1
        have f2 := hbP.frozen 2
        clear c0 c1 c2
        have c0 := hbP.cell 0
        have c1 := hbP.cell 1
        have c2 := hbP.cell 2
        simp at c0 c1 c2
        clear hbP hbR hm4 hm ho HR2
        go_wp2_with fail
        go_roundw
        case rel =>
          have hb9 := ((HP4.out.set_ 0 (.slice A9 n c9)).set_ 1 (.slice X9 m9 k9)).set_ 2 (.int .i64 sh)
          simp only [List.setIfInBounds_toArray, List.set_cons_zero, List.set_cons_succ] at hb9
          have hr9 := ((HR4.out.set_other bP 0 (.slice A9 n c9) hRP).set_other bP 1 (.slice X9 m9 k9) hRP).set_other bP 2 (.int .i64 sh) hRP
          have hH : Hld _ A n c X m k b A9 c9 X9 m9 k9 _ := (Hld.own HO.out).store (a := .slice A9 n c9) (a' := .slice X9 m9 k9) (a'' := .int .i64 sh) HP4.out
          have hm9 := ((HM4.out.setC (i := 0) (u := .slice A9 n c9) hgPw).setC (i := 1) (u := .slice X9 m9 k9) hgPw).setC (i := 2) (u := .int .i64 sh) hgPw
          exact ⟨j + 1, A9, c9, X9, m9, k9, by omega, by go_num, Lib.hid ⟨hb9.alloc _, hr9.alloc _, by rw [HTk.out]; exact hH.mor (Mor.refl _).alloc, hm9.alloc⟩⟩
        case measure => simp [intOf]; omega
      · have HP := Lib.hid (fun w' h => HPn.out w' h hc)
        have HSt := Lib.hid (stepb_no hc)
        have hr : (postc bj ⟨ky, dy, ls⟩ == 0) = false := by simpa using hc
        generalize postc bj ⟨ky, dy, ls⟩ = r at *
        clear hc HPn HPy
        go_wp2_with fail
        refine (HP.out _ (Mor.refl _).alloc).mono ?_
        rintro e w4 ⟨rfl, hm4⟩
        have HR4 := Lib.hid (HR2.out _ ((Mor.refl _).alloc.trans' hm4))
        clear hm4 HR2
        go_wp2_with fail
        go_roundw
        case rel =>
          obtain ⟨h1, h2, h3, h4⟩ := HR4.out
          exact ⟨j + 1, A', c', X', m', k', by omega, by go_num, Lib.hid ⟨h1.alloc _, h2.alloc _, by rw [HTk.out, HSt.out]; exact h3.mor (Mor.refl _).alloc, h4.alloc⟩⟩
        case measure => simp [intOf]; omega
    · obtain rfl : j = P := by omega
      have HL := Lib.hid hld
      have HM := Lib.hid hm
      have HbR := Lib.hid hbR
      have rl := hbR.lt
      have f0 := hbR.frozen 0
      have f1 := hbR.frozen 1
      have f2 := hbR.frozen 2
      have r0 := hbR.cell 0
      have r1 := hbR.cell 1
      have r2 := hbR.cell 2
      simp at r0 r1 r2
      clear hbP hbR hld hm HR
      go_wp2_with fail
      have hb9 := ((HbR.out.set_ 0 (.slice A' n c')).set_ 1 (.slice X' m' k')).set_ 2 (.int .i64 sh)
      simp only [List.setIfInBounds_toArray, List.set_cons_zero, List.set_cons_succ] at hb9
      have hH := HL.out.store (a := .slice A' n c') (a' := .slice X' m' k') (a'' := .int .i64 sh) HbR.out
      have hm9 := ((HM.out.setC (i := 0) (u := .slice A' n c') hgRw).setC (i := 1) (u := .slice X' m' k') hgRw).setC (i := 2) (u := .int .i64 sh) hgRw
      generalize (((wr.setCell ⟨bR, 0, none⟩ (.slice A' n c')).setCell ⟨bR, 1, none⟩ (.slice X' m' k')).setCell ⟨bR, 2, none⟩ (.int .i64 sh)) = w9 at *
      have q0 := hb9.cell 0
      have q1 := hb9.cell 1
      have q2 := hb9.cell 2
      simp at q0 q1 q2
      refine bodyPost_ret (v := bv A' n c' X' m' k' sh) (by simp [results, Try.results30, go_sem, q0, q1, q2]; try rfl) rfl ?_
      exact ⟨A', c', X', m', k', rfl, by rw [← HPe.out]; exact hH, hm9⟩

end Go.Proofs.Ytpgefclnplmlkaa
