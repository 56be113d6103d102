/- What closing.Undo hands back. -/
import Derived.Test.YtdfacejepmolbaaTurnA
import Derived.Test.YtdfacejepmolbaaTriG
import Derived.Test.YtdfacejepmolbaaBookS
import Derived.BigRegion
namespace Go.Proofs.Ytdfacejepmolbaa
open Go.ChangeShapes Go.WideShapes Go.ChangeAt Go.RowKit Go.PlainAid
set_option linter.unusedVariables false

/-- the entry that turns another -/
def undoE (b : Bok) (key by' : ByteArray) (day : Int) : En := ⟨by', day, turn (ne b.en (findE b.en key).toNat).ls⟩
/-- what Undo says -/
def undoc (b : Bok) (key by' : ByteArray) (day : Int) : Int :=
  if bookc b ≠ 0 then bookc b else if findE b.en key < 0 then 4 else if keyB by' = false then 3 else if day < 0 ∨ 292193 < day then 1 else postc b (undoE b key by' day)
theorem undoc_zero {b : Bok} {key by' : ByteArray} {day : Int} (h : undoc b key by' day = 0) :
    BOk b ∧ (∃ i : Nat, i < b.en.length ∧ findE b.en key = i ∧ (ne b.en i).key = key ∧ undoE b key by' day = ⟨by', day, turn (ne b.en i).ls⟩) ∧ keyB by' = true ∧ 0 ≤ day ∧ day ≤ 292193 ∧ postc b (undoE b key by' day) = 0 := by
  unfold undoc at h
  by_cases h1 : bookc b = 0
  · rw [if_neg (by simp [h1])] at h
    by_cases h2 : findE b.en key < 0
    · rw [if_pos h2] at h; omega
    · rw [if_neg h2] at h
      cases h3 : keyB by'
      · rw [h3, if_pos rfl] at h; omega
      · rw [h3, if_neg (by simp)] at h
        by_cases h4 : day < 0 ∨ 292193 < day
        · rw [if_pos h4] at h; omega
        · rw [if_neg h4] at h
          refine ⟨(bookc_iff b).1 h1, ?_, rfl, by omega, by omega, h⟩
          rcases findE_cases b.en key with ⟨e, _⟩ | ⟨i, hi, e, hk⟩
          · rw [e] at h2; omega
          · refine ⟨i, hi, e, by rw [ne_eq _ _ hi]; exact hk, ?_⟩
            unfold undoE
            rw [e, show ((i : Int)).toNat = i by omega]
  · rw [if_pos h1] at h; exact absurd h h1

set_option maxRecDepth 100000 in
set_option maxHeartbeats 1600000 in
theorem undo_g (A : Option Addr) (n c : Nat) (X : Option Addr) (m k : Nat) (sh : Int) (key by' : ByteArray) (day : Int) (w : World) (r : Int) (hr : r ≠ 0)
    (hG : ∀ w', Mor w w' → Calls Try.prog 12 #[bv A n c X m k sh, .string key] w' (GetNo w' r)) :
    Calls Try.prog 10 #[bv A n c X m k sh, .string key, .string by', .int .i64 day] w (PostNo w r) := by
  have HG := Lib.hid hG
  have hrb : (r != 0) = true := by simpa using hr
  clear hG hr
  go_enter Try.func10, Try.ntmps10
  go_wp2_with fail
  have hM0 := ((Mor.refl w).alloc (o := .cells #[.slice A n c, .slice X m k, .int .i64 sh] 25)).alloc (o := .cells #[.slice none 0 0, .slice none 0 0, .int .i64 0] 25)
  have hP0 := (Bk.new w 25 #[.slice A n c, .slice X m k, .int .i64 sh]).alloc (.cells #[.slice none 0 0, .slice none 0 0, .int .i64 0] 25)
  have hR0 := Bk.new (w.alloc (.cells #[.slice A n c, .slice X m k, .int .i64 sh] 25)) 25 #[.slice none 0 0, .slice none 0 0, .int .i64 0]
  rw [← sz1] at hR0
  obtain ⟨bP, hgP⟩ : ∃ g, g = w.heap.size := ⟨_, rfl⟩
  rw [← hgP] at hP0 hR0 ⊢
  obtain ⟨bR, hgR⟩ : ∃ g, g = bP + 1 := ⟨_, rfl⟩
  rw [← hgR] at hR0 ⊢
  have hwR : w.heap.size ≤ bR := by omega
  clear hgP hgR
  generalize (w.alloc (.cells #[.slice A n c, .slice X m k, .int .i64 sh] 25)).alloc (.cells #[.slice none 0 0, .slice none 0 0, .int .i64 0] 25) = w0 at *
  have HP := Lib.hid (fun w' (h : Mor w0 w') => hP0.mor h)
  have HR := Lib.hid (fun w' (h : Mor w0 w') => hR0.mor h)
  have HM0 := Lib.hid hM0
  clear hP0 hR0 hM0
  have hp := HP.out _ (Mor.refl _)
  have c0 := hp.cell 0
  have c1 := hp.cell 1
  have c2 := hp.cell 2
  have cl := hp.lt
  simp at c0 c1 c2
  clear hp
  refine (HG.out _ HM0.out).mono ?_
  rintro e w1 ⟨rfl, hm⟩
  have HMw := Lib.hid (HM0.out.trans' hm)
  have hr := HR.out _ hm
  have z0 := hr.cell 0
  have z1 := hr.cell 1
  have z2 := hr.cell 2
  have f0 := hr.frozen 0
  have f1 := hr.frozen 1
  have f2 := hr.frozen 2
  have rl := hr.lt
  simp at z0 z1 z2
  have HRb := Lib.hid hr
  clear hr
  clear hm c0 c1 c2 cl
  go_wp2_with fail
  have hb9 := ((HRb.out.set_ 0 (.slice none 0 0)).set_ 1 (.slice none 0 0)).set_ 2 (.int .i64 0)
  simp only [List.setIfInBounds_toArray, List.set_cons_zero, List.set_cons_succ] at hb9
  have hm9 := ((HMw.out.setC (i := 0) (u := .slice none 0 0) hwR).setC (i := 1) (u := .slice none 0 0) hwR).setC (i := 2) (u := .int .i64 0) hwR
  have hb9 := hb9.alloc (.cells #[.string { data := #[] }, .int .i64 0, .slice none 0 0] 32)
  have hm9 := hm9.alloc (o := .cells #[.string { data := #[] }, .int .i64 0, .slice none 0 0] 32)
  generalize (((w1.setCell ⟨bR, 0, none⟩ (.slice none 0 0)).setCell ⟨bR, 1, none⟩ (.slice none 0 0)).setCell ⟨bR, 2, none⟩ (.int .i64 0)).alloc (.cells #[.string { data := #[] }, .int .i64 0, .slice none 0 0] 32) = w9 at *
  have q0 := hb9.cell 0
  have q1 := hb9.cell 1
  have q2 := hb9.cell 2
  simp at q0 q1 q2
  refine bodyPost_ret (by simp [results, Try.results10, go_sem, q0, q1, q2]; try rfl) rfl ?_
  exact ⟨rfl, hm9⟩

set_option maxRecDepth 100000 in
set_option maxHeartbeats 1600000 in
theorem undo_t (A : Option Addr) (n c : Nat) (X : Option Addr) (m k : Nat) (sh : Int) (key by' : ByteArray) (day : Int) (w : World) (x : En) (r : Int) (hr : r ≠ 0)
    (hG : ∀ w', Mor w w' → Calls Try.prog 12 #[bv A n c X m k sh, .string key] w' (GetYes w' x))
    (hT : ∀ w' A n c, Lq w' A n c x.ls → Calls Try.prog 27 #[.agg #[.string x.key, .int .i64 x.day, .slice A n c], .string by', .int .i64 day] w' fun e w'' => e = .returned (.tuple #[.agg #[.string { data := #[] }, .int .i64 0, .slice none 0 0], .int .i64 r]) ∧ Mor w' w'') :
    Calls Try.prog 10 #[bv A n c X m k sh, .string key, .string by', .int .i64 day] w (PostNo w r) := by
  have HG := Lib.hid hG
  have HT := Lib.hid hT
  have hrb : (r != 0) = true := by simpa using hr
  clear hG hr hT
  go_enter Try.func10, Try.ntmps10
  go_wp2_with fail
  have hM0 := ((Mor.refl w).alloc (o := .cells #[.slice A n c, .slice X m k, .int .i64 sh] 25)).alloc (o := .cells #[.slice none 0 0, .slice none 0 0, .int .i64 0] 25)
  have hP0 := (Bk.new w 25 #[.slice A n c, .slice X m k, .int .i64 sh]).alloc (.cells #[.slice none 0 0, .slice none 0 0, .int .i64 0] 25)
  have hR0 := Bk.new (w.alloc (.cells #[.slice A n c, .slice X m k, .int .i64 sh] 25)) 25 #[.slice none 0 0, .slice none 0 0, .int .i64 0]
  rw [← sz1] at hR0
  obtain ⟨bP, hgP⟩ : ∃ g, g = w.heap.size := ⟨_, rfl⟩
  rw [← hgP] at hP0 hR0 ⊢
  obtain ⟨bR, hgR⟩ : ∃ g, g = bP + 1 := ⟨_, rfl⟩
  rw [← hgR] at hR0 ⊢
  have hwR : w.heap.size ≤ bR := by omega
  clear hgP hgR
  generalize (w.alloc (.cells #[.slice A n c, .slice X m k, .int .i64 sh] 25)).alloc (.cells #[.slice none 0 0, .slice none 0 0, .int .i64 0] 25) = w0 at *
  have HP := Lib.hid (fun w' (h : Mor w0 w') => hP0.mor h)
  have HR := Lib.hid (fun w' (h : Mor w0 w') => hR0.mor h)
  have HM0 := Lib.hid hM0
  clear hP0 hR0 hM0
  have hp := HP.out _ (Mor.refl _)
  have c0 := hp.cell 0
  have c1 := hp.cell 1
  have c2 := hp.cell 2
  have cl := hp.lt
  simp at c0 c1 c2
  clear hp
  refine (HG.out _ HM0.out).mono ?_
  rintro e w1 ⟨A1, n1, cc1, rfl, ho1, hm⟩
  have hl1 : Lq w1 A1 n1 cc1 x.ls := ho1.lq
  have HM01 := Lib.hid (hm.alloc (o := .cells #[.string x.key, .int .i64 x.day, .slice A1 n1 cc1] 32))
  have HL1 := Lib.hid (hl1.mor ((Mor.refl w1).alloc (o := .cells #[.string x.key, .int .i64 x.day, .slice A1 n1 cc1] 32)))
  clear hl1 ho1 hm c0 c1 c2 cl
  go_wp2_with fail
  refine (HT.out _ _ _ _ HL1.out).mono ?_
  rintro e w2 ⟨rfl, hm⟩
  have HMw := Lib.hid ((HM0.out.trans' HM01.out).trans' hm)
  have hr := HR.out _ (HM01.out.trans' hm)
  have z0 := hr.cell 0
  have z1 := hr.cell 1
  have z2 := hr.cell 2
  have f0 := hr.frozen 0
  have f1 := hr.frozen 1
  have f2 := hr.frozen 2
  have rl := hr.lt
  simp at z0 z1 z2
  have HRb := Lib.hid hr
  clear hr
  clear hm HL1
  go_wp2_with fail
  have hb9 := ((HRb.out.set_ 0 (.slice none 0 0)).set_ 1 (.slice none 0 0)).set_ 2 (.int .i64 0)
  simp only [List.setIfInBounds_toArray, List.set_cons_zero, List.set_cons_succ] at hb9
  have hm9 := ((HMw.out.setC (i := 0) (u := .slice none 0 0) hwR).setC (i := 1) (u := .slice none 0 0) hwR).setC (i := 2) (u := .int .i64 0) hwR
  have hb9 := hb9.alloc (.cells #[.string { data := #[] }, .int .i64 0, .slice none 0 0] 32)
  have hm9 := hm9.alloc (o := .cells #[.string { data := #[] }, .int .i64 0, .slice none 0 0] 32)
  generalize (((w2.setCell ⟨bR, 0, none⟩ (.slice none 0 0)).setCell ⟨bR, 1, none⟩ (.slice none 0 0)).setCell ⟨bR, 2, none⟩ (.int .i64 0)).alloc (.cells #[.string { data := #[] }, .int .i64 0, .slice none 0 0] 32) = w9 at *
  have q0 := hb9.cell 0
  have q1 := hb9.cell 1
  have q2 := hb9.cell 2
  simp at q0 q1 q2
  refine bodyPost_ret (by simp [results, Try.results10, go_sem, q0, q1, q2]; try rfl) rfl ?_
  exact ⟨rfl, hm9⟩

set_option maxRecDepth 100000 in
set_option maxHeartbeats 1600000 in
theorem undo_pn (A : Option Addr) (n c : Nat) (X : Option Addr) (m k : Nat) (sh : Int) (key by' : ByteArray) (day : Int) (w : World) (x : En) (r : Int)
    (hG : ∀ w', Mor w w' → Calls Try.prog 12 #[bv A n c X m k sh, .string key] w' (GetYes w' x))
    (hT : ∀ w' A n c, Lq w' A n c x.ls → Calls Try.prog 27 #[.agg #[.string x.key, .int .i64 x.day, .slice A n c], .string by', .int .i64 day] w' fun e w'' => ∃ A n c, e = .returned (.tuple #[.agg #[.string by', .int .i64 day, .slice A n c], .int .i64 0]) ∧ Lq w'' A n c (turn x.ls) ∧ Mor w' w'')
    (hP : ∀ w' B p q, Mor w w' → Lq w' B p q (turn x.ls) → Calls Try.prog 7 #[bv A n c X m k sh, .agg #[.string by', .int .i64 day, .slice B p q]] w' (PostNo w' r)) :
    Calls Try.prog 10 #[bv A n c X m k sh, .string key, .string by', .int .i64 day] w (PostNo w r) := by
  have HG := Lib.hid hG
  have HT := Lib.hid hT
  have HPo := Lib.hid hP
  clear hG hT hP
  go_enter Try.func10, Try.ntmps10
  go_wp2_with fail
  have hM0 := ((Mor.refl w).alloc (o := .cells #[.slice A n c, .slice X m k, .int .i64 sh] 25)).alloc (o := .cells #[.slice none 0 0, .slice none 0 0, .int .i64 0] 25)
  have hP0 := (Bk.new w 25 #[.slice A n c, .slice X m k, .int .i64 sh]).alloc (.cells #[.slice none 0 0, .slice none 0 0, .int .i64 0] 25)
  have hR0 := Bk.new (w.alloc (.cells #[.slice A n c, .slice X m k, .int .i64 sh] 25)) 25 #[.slice none 0 0, .slice none 0 0, .int .i64 0]
  rw [← sz1] at hR0
  obtain ⟨bP, hgP⟩ : ∃ g, g = w.heap.size := ⟨_, rfl⟩
  rw [← hgP] at hP0 hR0 ⊢
  obtain ⟨bR, hgR⟩ : ∃ g, g = bP + 1 := ⟨_, rfl⟩
  rw [← hgR] at hR0 ⊢
  have hwR : w.heap.size ≤ bR := by omega
  clear hgP hgR
  generalize (w.alloc (.cells #[.slice A n c, .slice X m k, .int .i64 sh] 25)).alloc (.cells #[.slice none 0 0, .slice none 0 0, .int .i64 0] 25) = w0 at *
  have HP := Lib.hid (fun w' (h : Mor w0 w') => hP0.mor h)
  have HR := Lib.hid (fun w' (h : Mor w0 w') => hR0.mor h)
  have HM0 := Lib.hid hM0
  clear hP0 hR0 hM0
  have hp := HP.out _ (Mor.refl _)
  have c0 := hp.cell 0
  have c1 := hp.cell 1
  have c2 := hp.cell 2
  have cl := hp.lt
  simp at c0 c1 c2
  clear hp
  refine (HG.out _ HM0.out).mono ?_
  rintro e w1 ⟨A1, n1, cc1, rfl, ho1, hm⟩
  have hl1 : Lq w1 A1 n1 cc1 x.ls := ho1.lq
  have HM01 := Lib.hid (hm.alloc (o := .cells #[.string x.key, .int .i64 x.day, .slice A1 n1 cc1] 32))
  have HL1 := Lib.hid (hl1.mor ((Mor.refl w1).alloc (o := .cells #[.string x.key, .int .i64 x.day, .slice A1 n1 cc1] 32)))
  clear hl1 ho1 hm c0 c1 c2 cl
  go_wp2_with fail
  refine (HT.out _ _ _ _ HL1.out).mono ?_
  rintro e w2 ⟨A2, n2, cc2, rfl, hl2, hm⟩
  have HM02 := Lib.hid ((HM01.out.trans' hm).alloc (o := .cells #[.string by', .int .i64 day, .slice A2 n2 cc2] 32))
  have HL2 := Lib.hid (hl2.mor ((Mor.refl w2).alloc (o := .cells #[.string by', .int .i64 day, .slice A2 n2 cc2] 32)))
  have hp := HP.out _ (HM01.out.trans' hm)
  have c0 := hp.cell 0
  have c1 := hp.cell 1
  have c2 := hp.cell 2
  have cl := hp.lt
  simp at c0 c1 c2
  clear hp
  clear hl2 hm HL1
  go_wp2_with fail
  refine (HPo.out _ _ _ _ (HM0.out.trans' HM02.out) HL2.out).mono ?_
  rintro e w3 ⟨rfl, hm⟩
  have HMw := Lib.hid ((HM0.out.trans' HM02.out).trans' hm)
  have hr := HR.out _ (HM02.out.trans' hm)
  have z0 := hr.cell 0
  have z1 := hr.cell 1
  have z2 := hr.cell 2
  have f0 := hr.frozen 0
  have f1 := hr.frozen 1
  have f2 := hr.frozen 2
  have rl := hr.lt
  simp at z0 z1 z2
  have HRb := Lib.hid hr
  clear hr
  clear hm HL2 c0 c1 c2 cl
  go_wp2_with fail
  have hb9 := ((HRb.out.set_ 0 (.slice none 0 0)).set_ 1 (.slice none 0 0)).set_ 2 (.int .i64 0)
  simp only [List.setIfInBounds_toArray, List.set_cons_zero, List.set_cons_succ] at hb9
  have hm9 := ((HMw.out.setC (i := 0) (u := .slice none 0 0) hwR).setC (i := 1) (u := .slice none 0 0) hwR).setC (i := 2) (u := .int .i64 0) hwR
  generalize ((w3.setCell ⟨bR, 0, none⟩ (.slice none 0 0)).setCell ⟨bR, 1, none⟩ (.slice none 0 0)).setCell ⟨bR, 2, none⟩ (.int .i64 0) = w9 at *
  have q0 := hb9.cell 0
  have q1 := hb9.cell 1
  have q2 := hb9.cell 2
  simp at q0 q1 q2
  refine bodyPost_ret (by simp [results, Try.results10, go_sem, q0, q1, q2]; try rfl) rfl ?_
  exact ⟨rfl, hm9⟩

set_option maxRecDepth 100000 in
set_option maxHeartbeats 1600000 in
theorem undo_py (A : Option Addr) (n c : Nat) (X : Option Addr) (m k : Nat) (sh : Int) (key by' : ByteArray) (day : Int) (w : World) (x : En) (y : Bok)
    (hG : ∀ w', Mor w w' → Calls Try.prog 12 #[bv A n c X m k sh, .string key] w' (GetYes w' x))
    (hT : ∀ w' A n c, Lq w' A n c x.ls → Calls Try.prog 27 #[.agg #[.string x.key, .int .i64 x.day, .slice A n c], .string by', .int .i64 day] w' fun e w'' => ∃ A n c, e = .returned (.tuple #[.agg #[.string by', .int .i64 day, .slice A n c], .int .i64 0]) ∧ Lq w'' A n c (turn x.ls) ∧ Mor w' w'')
    (hP : ∀ w' B p q, Mor w w' → Lq w' B p q (turn x.ls) → Calls Try.prog 7 #[bv A n c X m k sh, .agg #[.string by', .int .i64 day, .slice B p q]] w' (PostYes w' y)) :
    Calls Try.prog 10 #[bv A n c X m k sh, .string key, .string by', .int .i64 day] w (PostYes w y) := by
  have HG := Lib.hid hG
  have HT := Lib.hid hT
  have HPo := Lib.hid hP
  clear hG hT hP
  go_enter Try.func10, Try.ntmps10
  go_wp2_with fail
  have hM0 := ((Mor.refl w).alloc (o := .cells #[.slice A n c, .slice X m k, .int .i64 sh] 25)).alloc (o := .cells #[.slice none 0 0, .slice none 0 0, .int .i64 0] 25)
  have hP0 := (Bk.new w 25 #[.slice A n c, .slice X m k, .int .i64 sh]).alloc (.cells #[.slice none 0 0, .slice none 0 0, .int .i64 0] 25)
  have hR0 := Bk.new (w.alloc (.cells #[.slice A n c, .slice X m k, .int .i64 sh] 25)) 25 #[.slice none 0 0, .slice none 0 0, .int .i64 0]
  rw [← sz1] at hR0
  obtain ⟨bP, hgP⟩ : ∃ g, g = w.heap.size := ⟨_, rfl⟩
  rw [← hgP] at hP0 hR0 ⊢
  obtain ⟨bR, hgR⟩ : ∃ g, g = bP + 1 := ⟨_, rfl⟩
  rw [← hgR] at hR0 ⊢
  have hwR : w.heap.size ≤ bR := by omega
  clear hgP hgR
  generalize (w.alloc (.cells #[.slice A n c, .slice X m k, .int .i64 sh] 25)).alloc (.cells #[.slice none 0 0, .slice none 0 0, .int .i64 0] 25) = w0 at *
  have HP := Lib.hid (fun w' (h : Mor w0 w') => hP0.mor h)
  have HR := Lib.hid (fun w' (h : Mor w0 w') => hR0.mor h)
  have HM0 := Lib.hid hM0
  clear hP0 hR0 hM0
  have hp := HP.out _ (Mor.refl _)
  have c0 := hp.cell 0
  have c1 := hp.cell 1
  have c2 := hp.cell 2
  have cl := hp.lt
  simp at c0 c1 c2
  clear hp
  refine (HG.out _ HM0.out).mono ?_
  rintro e w1 ⟨A1, n1, cc1, rfl, ho1, hm⟩
  have hl1 : Lq w1 A1 n1 cc1 x.ls := ho1.lq
  have HM01 := Lib.hid (hm.alloc (o := .cells #[.string x.key, .int .i64 x.day, .slice A1 n1 cc1] 32))
  have HL1 := Lib.hid (hl1.mor ((Mor.refl w1).alloc (o := .cells #[.string x.key, .int .i64 x.day, .slice A1 n1 cc1] 32)))
  clear hl1 ho1 hm c0 c1 c2 cl
  go_wp2_with fail
  refine (HT.out _ _ _ _ HL1.out).mono ?_
  rintro e w2 ⟨A2, n2, cc2, rfl, hl2, hm⟩
  have HM02 := Lib.hid ((HM01.out.trans' hm).alloc (o := .cells #[.string by', .int .i64 day, .slice A2 n2 cc2] 32))
  have HL2 := Lib.hid (hl2.mor ((Mor.refl w2).alloc (o := .cells #[.string by', .int .i64 day, .slice A2 n2 cc2] 32)))
  have hp := HP.out _ (HM01.out.trans' hm)
  have c0 := hp.cell 0
  have c1 := hp.cell 1
  have c2 := hp.cell 2
  have cl := hp.lt
  simp at c0 c1 c2
  clear hp
  clear hl2 hm HL1
  go_wp2_with fail
  refine (HPo.out _ _ _ _ (HM0.out.trans' HM02.out) HL2.out).mono ?_
  rintro e w3 ⟨A3, n3, cc3, X3, m3, k3, rfl, ho3, hm⟩
  have HO3 := Lib.hid ho3
  have HMw := Lib.hid ((HM0.out.trans' HM02.out).trans' hm)
  have HSz := Lib.hid (show w.heap.size ≤ _ from (HM0.out.trans' HM02.out).below.size)
  have hr := HR.out _ (HM02.out.trans' hm)
  have z0 := hr.cell 0
  have z1 := hr.cell 1
  have z2 := hr.cell 2
  have f0 := hr.frozen 0
  have f1 := hr.frozen 1
  have f2 := hr.frozen 2
  have rl := hr.lt
  simp at z0 z1 z2
  have HRb := Lib.hid hr
  clear hr
  clear hm HL2 c0 c1 c2 cl ho3
  go_wp2_with fail
  have hb9 := ((HRb.out.set_ 0 (.slice A3 n3 cc3)).set_ 1 (.slice X3 m3 k3)).set_ 2 (.int .i64 y.shut)
  simp only [List.setIfInBounds_toArray, List.set_cons_zero, List.set_cons_succ] at hb9
  have hm9 := ((HMw.out.setC (i := 0) (u := .slice A3 n3 cc3) hwR).setC (i := 1) (u := .slice X3 m3 k3) hwR).setC (i := 2) (u := .int .i64 y.shut) hwR
  have ho9 := (own3 (a := .slice A3 n3 cc3) (a' := .slice X3 m3 k3) (a'' := .int .i64 y.shut) HO3.out HRb.out).base HSz.out
  generalize ((w3.setCell ⟨bR, 0, none⟩ (.slice A3 n3 cc3)).setCell ⟨bR, 1, none⟩ (.slice X3 m3 k3)).setCell ⟨bR, 2, none⟩ (.int .i64 y.shut) = w9 at *
  have q0 := hb9.cell 0
  have q1 := hb9.cell 1
  have q2 := hb9.cell 2
  simp at q0 q1 q2
  refine bodyPost_ret (by simp [results, Try.results10, go_sem, q0, q1, q2]; try rfl) rfl ?_
  exact ⟨A3, n3, cc3, X3, m3, k3, rfl, ho9, hm9⟩

end Go.Proofs.Ytdfacejepmolbaa
