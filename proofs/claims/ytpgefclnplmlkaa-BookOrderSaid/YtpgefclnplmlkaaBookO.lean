/- The walks of talref.Same, talref.SameBook (of the same), talkeep.plain, day. -/
import Derived.Test.YtpgefclnplmlkaaBookN
import Derived.Test.YtpgefclnplmlkaaBookM
import Derived.Test.YtpgefclnplmlkaaWithinA
namespace Go.Proofs.Ytpgefclnplmlkaa
open Go.ChangeShapes Go.WideShapes Go.ChangeAt Go.RowKit Go.PlainAid
set_option linter.unusedVariables false

set_option maxHeartbeats 1600000 in
theorem rsame_any (x y : En) (A A' : Option Addr) (n c n' c' : Nat) (w : World) (hx : Lq w A n c x.ls) (hy : Lq w A' n' c' y.ls) :
    Calls Try.prog 27 #[.agg #[.string x.key, .int .i64 x.day, .slice A n c], .agg #[.string y.key, .int .i64 y.day, .slice A' n' c']] w fun e w' => e = .returned (.bool (decide (x = y))) ∧ Mor w w' := by
  have HE := Lib.hid (fun w' (h : Mor w w') => equal_dec A A' n c n' c' x.ls y.ls w' (hx.si.mor h) (hy.si.mor h) hx.length hy.length (Nat.le_trans hx.le hx.max))
  have HD := Lib.hid (en_eq x y)
  clear hx hy
  generalize decide (x = y) = r at *
  generalize decide (x.ls = y.ls) = b at *
  generalize x.key = s at *
  generalize y.key = t at *
  generalize x.day = d at *
  generalize y.day = d' at *
  by_cases h1 : s = t
  · subst h1
    by_cases h2 : d = d'
    · subst h2
      go_enter Try.func27, Try.ntmps27
      go_wp2_with ((go_at_call 54; (with_reducible refine (HE.out _ ((Mor.refl _).alloc.alloc)).mono ?_); rintro e w1 ⟨rfl, m, rfl⟩))
      go_ret
      exact ⟨by rw [HD.out] <;> simp, (Mor.refl _).alloc.alloc.drewN⟩
    · have hd : (d == d') = false := by simpa using h2
      go_enter Try.func27, Try.ntmps27
      go_wp2_with fail
      go_ret
      exact ⟨by rw [HD.out] <;> simp [h2], (Mor.refl _).alloc.alloc⟩
  · have hst : (s.toList == t.toList) = false := by rw [str_eq]; exact decide_eq_false h1
    go_enter Try.func27, Try.ntmps27
    go_wp2_with fail
    go_ret
    exact ⟨by rw [HD.out] <;> simp [h1], (Mor.refl _).alloc.alloc⟩

set_option maxRecDepth 100000 in
set_option maxHeartbeats 1600000 in
theorem equal_ac (A A' : Option Addr) (n c c' : Nat) (xs : List Ln) (w : World) (hr : Si w A xs) (hr' : Si w A' xs) (hn : xs.length = n) (hl : n ≤ maxLen) :
    Calls Try.prog 40 #[.slice A n c, .slice A' n c'] w fun e w' => e = .returned (.bool true) ∧ ∃ k, w' = w.drewN k := by
  unfold maxLen at hl
  have HR := Lib.hid hr
  have HR' := Lib.hid hr'
  have HN := Lib.hid hn
  clear hr hr' hn
  go_enter Try.func40, Try.ntmps40
  go_wp2
  go_loopw [13] (fun i wr => ∃ k m : Nat, k ≤ n ∧ i = .int .i64 k ∧ wr = w.drewN m) (fun i _ => n - (intOf i).toNat)
  case atStart => exact ⟨0, 0, Nat.zero_le _, rfl, rfl⟩
  case round =>
    obtain ⟨k, m, hk, rfl, rfl⟩ := hrel
    by_cases hlt : k < n
    · obtain ⟨x, hA, hxb, c1, c2⟩ := HR.out.at_ k (by rw [HN.out]; exact hlt)
      obtain ⟨y, hA', hyb, d1, d2⟩ := HR'.out.at_ k (by rw [HN.out]; exact hlt)
      subst hA hA'
      generalize cd xs k = s at *
      generalize am xs k = a at *
      have hi : ((k : Nat) : Int) < (n : Int) := by omega
      go_wp2
      go_quiet (fail)
      go_wp2
      go_roundw
      case rel => exact ⟨k + 1, _, by omega, by go_num, rfl⟩
      case measure => simp [intOf]; omega
    · have e : k = n := by omega
      subst e
      go_wp2
      go_ret
      exact ⟨rfl, _, rfl⟩

set_option maxRecDepth 100000 in
set_option maxHeartbeats 1600000 in
theorem equal_en (X X' : Option Addr) (m k k' : Nat) (es : List En) (w : World) (hr : Es w X es) (hr' : Es w X' es) (hn : es.length = m) (hl : m ≤ maxLen) :
    Calls Try.prog 41 #[.slice X m k, .slice X' m k', .func (.func 27) #[] #[]] w fun e w' => e = .returned (.bool true) ∧ Mor w w' := by
  unfold maxLen at hl
  have HR := Lib.hid hr
  have HR' := Lib.hid hr'
  have HN := Lib.hid hn
  clear hr hr' hn
  go_enter Try.func41, Try.ntmps41
  go_wp2
  go_loopw [17] (fun i wr => ∃ j : Nat, j ≤ m ∧ i = .int .i64 j ∧ Hid (Mor w wr)) (fun i _ => m - (intOf i).toNat)
  case atStart => exact ⟨0, Nat.zero_le _, rfl, Lib.hid (Mor.refl _)⟩
  case round =>
    obtain ⟨j, hj, rfl, HM⟩ := hrel
    by_cases hlt : j < m
    · have hji : (j : Int) < (m : Int) := by omega
      have hj0 : (0 : Int) ≤ (j : Int) := by omega
      obtain ⟨x, B, p, q, hX, hxb, -, d0, d1, d2, hq⟩ := (HR.out.mor HM.out).at_ j (by rw [HN.out]; exact hlt)
      obtain ⟨y, B', p', q', hX', hyb, -, f0, f1, f2, hq'⟩ := (HR'.out.mor HM.out).at_ j (by rw [HN.out]; exact hlt)
      subst hX hX'
      have HS := Lib.hid (fun w' (h : Mor wr w') => rsame_any (ne es j) (ne es j) B B' p q p' q' w' (hq.mor h) (hq'.mor h))
      rw [decide_eq_true (rfl : ne es j = ne es j)] at HS
      clear hq hq'
      generalize (ne es j).key = ky at *
      generalize (ne es j).day = dy at *
      have hal := ((Mor.refl wr).alloc (o := .cells #[.string ky, .int .i64 dy, .slice B p q] 42)).below
      have fa0 := (hal.cell (p := y.add (j * 3)) (by rw [addb]; exact hyb)).trans f0
      have fa1 := (hal.cell (p := ⟨(y.add (j * 3)).block, (y.add (j * 3)).off + 1, none⟩) (by rw [addb]; exact hyb)).trans f1
      have fa2 := (hal.cell (p := ⟨(y.add (j * 3)).block, (y.add (j * 3)).off + 2, none⟩) (by rw [addb]; exact hyb)).trans f2
      clear hal
      go_wp2_with (first | (go_at_call 27; (with_reducible refine (HS.out _ ((Mor.refl _).alloc.alloc)).mono ?_); rintro e w5 ⟨rfl, bs, dr, rfl⟩) | (go_at_fn 27; (with_reducible refine (HS.out _ ((Mor.refl _).alloc.alloc)).mono ?_); rintro e w5 ⟨rfl, bs, dr, rfl⟩))
      go_roundw
      case rel => exact ⟨j + 1, by omega, by go_num, Lib.hid (HM.out.alloc.alloc.more)⟩
      case measure => simp [intOf]; omega
    · obtain rfl : j = m := by omega
      go_wp2
      go_ret
      exact ⟨rfl, HM.out⟩

set_option maxRecDepth 100000 in
set_option maxHeartbeats 1600000 in
theorem samebook_yes (A A' : Option Addr) (n c c' : Nat) (X X' : Option Addr) (m k k' : Nat) (sh : Int) (b : Bok) (w : World) (h : Bq w A n c X m k b) (h' : Bq w A' n c' X' m k' b) :
    Calls Try.prog 18 #[bv A n c X m k sh, bv A' n c' X' m k' sh] w fun e w' => e = .returned (.bool true) ∧ Mor w w' := by
  have HA := Lib.hid (fun w' (hm : Mor w w') => equal_ac A A' n c c' b.ac w' (h.ac.si.mor hm) (h'.ac.si.mor hm) h.ac.length (Nat.le_trans h.ac.le h.ac.max))
  have HE := Lib.hid (fun w' (hm : Mor w w') => equal_en X X' m k k' b.en w' (h.es.mor hm) (h'.es.mor hm) h.length (Nat.le_trans h.le h.max))
  clear h h'
  go_enter Try.func18, Try.ntmps18
  go_wp2_with (first | (go_at_call 40; (with_reducible refine (HA.out _ ((Mor.refl _).alloc.alloc)).mono ?_); rintro e w5 ⟨rfl, dr, rfl⟩) | (go_at_call 41; (with_reducible refine (HE.out _ ((Mor.refl _).alloc.alloc.drewN)).mono ?_); rintro e w5 ⟨rfl, bs, dr2, rfl⟩))
  go_ret
  exact ⟨rfl, by repeat (first | exact Mor.refl _ | apply Mor.alloc | apply Mor.more | apply Mor.drewN | apply Mor.drew)⟩

set_option maxHeartbeats 400000 in
theorem day_any (k : Int) (w : World) :
    Calls Try.prog 17 #[.int .i64 k] w fun e w' => e = .returned (.int .i64 (wi k 292194)) ∧ w = w' := by
  have HW := Lib.hid (fun w => within_any k 292194 w (by omega) (by omega))
  generalize wi k 292194 = r at *
  go_enter Try.func17, Try.ntmps17
  go_wp2_with (go_at_call 23; (with_reducible refine (HW.out _).mono ?_); rintro e w6 ⟨rfl, rfl⟩)
  go_ret
  exact ⟨rfl, rfl⟩

abbrev s20 : ByteArray := { data := #[50, 48] }
abbrev s30 : ByteArray := { data := #[51, 48] }
abbrev s50 : ByteArray := { data := #[53, 48] }
abbrev ka : ByteArray := { data := #[97] }
def plainB : Bok := ⟨[(s10, 0), (s20, 1), (s30, 2), (s40, 3), (s50, 4)], [], -1⟩
def saleE (key : ByteArray) (d n : Int) : En := ⟨key, d, [(s10, n), (s40, -n)]⟩
theorem plain_str : ∀ i, i < 5 → (cd plainB.ac i).size ≤ maxLen := by
  intro i hi
  match i, hi with
  | 0, _ | 1, _ | 2, _ | 3, _ | 4, _ => exact of_decide_eq_true (by decide)
set_option maxHeartbeats 1600000 in
theorem plain_any (w : World) :
    Calls Try.prog 16 #[] w fun e w' => ∃ g, e = .returned (bv (some ⟨g, 0, none⟩) 5 5 none 0 0 (-1)) ∧ Bq w' (some ⟨g, 0, none⟩) 5 5 none 0 0 plainB ∧ Mor w w' := by
  go_enter Try.func16, Try.ntmps16
  go_wp2_with fail
  go_returns
  refine ⟨w.heap.size + 1, rfl, ⟨⟨Si.of_rd (Rd.new (flat pc plainB.ac) (sz1 _ _) ?_), rfl, Nat.le_refl _, by unfold maxLen; omega, (fun h => by cases h), plain_str⟩, .inl rfl, rfl, Nat.le_refl _, by unfold maxLen; omega, fun _ => rfl⟩, (Mor.refl _).alloc.alloc⟩
  simp [flat, pc, plainB]

theorem plain_post (n : Int) (h1 : n = 7) : postc plainB (saleE ka 5 n) = 0 := by subst h1; decide +kernel
theorem plain_bal : balv (postb plainB (saleE ka 5 7)) s40 5 = -7 ∧ balc (postb plainB (saleE ka 5 7)) s40 5 = 0 ∧ (postb plainB (saleE ka 5 7)).en.length = 1 ∧ bookc (postb plainB (saleE ka 5 7)) = 0 := by decide +kernel

end Go.Proofs.Ytpgefclnplmlkaa
