/- The walks of entry.Turned where something is wrong, talkeep.sale, slices.Equal at lines, talref.Same. -/
import Derived.Test.YtjolkmpoogpgnaaEntD
namespace Go.Proofs.Ytjolkmpoogpgnaa
open Go.ChangeShapes Go.WideShapes Go.ChangeAt Go.RowKit Go.PlainAid
set_option linter.unusedVariables false

/-- what entry.Turned says -/
def turnc (key0 : ByteArray) (day0 : Int) (xs : List Ln) (key : ByteArray) (day : Int) : Int :=
  if entc key0 day0 xs ≠ 0 then entc key0 day0 xs else if keyB key = false then 3 else if day < 0 ∨ 292193 < day then 1 else 0

set_option maxHeartbeats 3200000 in
theorem turned_no (key0 : ByteArray) (day0 : Int) (A : Option Addr) (n cap : Nat) (xs : List Ln) (key : ByteArray) (day : Int) (w : World) (hk0 : key0.size ≤ maxLen) (hr : Si w A xs) (hn : xs.length = n) (hcap : n ≤ cap) (hml : n ≤ maxLen) (hs : ∀ i, i < n → (cd xs i).size ≤ maxLen)
    (hk : key.size ≤ maxLen) (hc : turnc key0 day0 xs key day ≠ 0) :
    Calls Try.prog 15 #[.agg #[.string key0, .int .i64 day0, .slice A n cap], .string key, .int .i64 day] w fun e w' => e = .returned (.tuple #[.agg #[.string { data := #[] }, .int .i64 0, .slice none 0 0], .int .i64 (turnc key0 day0 xs key day)]) ∧ Mor w w' := by
  have HC := Lib.hid (fun w (h : Si w A xs) => check_any key0 day0 A n cap xs w hk0 h hn hcap hml hs)
  have HK := Lib.hid (fun w => key_any key w hk)
  have HD := Lib.hid (fun w => cis_any day w)
  have HR := Lib.hid hr
  clear hr hs hn
  unfold turnc at hc ⊢
  by_cases h0 : entc key0 day0 xs = 0
  · rw [h0] at HC
    rw [if_neg (by simp [h0])] at hc ⊢
    cases hkb : keyB key
    · rw [hkb] at HK
      rw [if_pos rfl]
      clear hc h0 hkb
      go_enter Try.func15, Try.ntmps15
      go_wp2_with (first | (go_at_call 17; (with_reducible refine (HC.out _ HR.out.alloc.alloc).mono ?_); rintro e w1 ⟨rfl, bs, dr, rfl⟩) | (go_at_call 41; (with_reducible refine (HK.out _).mono ?_); rintro e w1 ⟨rfl, rfl⟩))
      go_returns
      exact ⟨rfl, by repeat (first | exact Mor.refl _ | apply Mor.alloc | apply Mor.more | apply Mor.drewN | apply Mor.drew)⟩
    · rw [hkb] at HK hc
      rw [if_neg (by simp)] at hc ⊢
      have hd : day < 0 ∨ 292193 < day := by
        by_cases h : day < 0 ∨ 292193 < day
        · exact h
        · rw [if_neg h] at hc; exact absurd rfl hc
      rw [if_pos hd]
      rw [show (decide (0 ≤ day) && decide (day ≤ 292193)) = false by simp; omega] at HD
      clear hc h0 hkb hd
      go_enter Try.func15, Try.ntmps15
      go_wp2_with (first | (go_at_call 17; (with_reducible refine (HC.out _ HR.out.alloc.alloc).mono ?_); rintro e w1 ⟨rfl, bs, dr, rfl⟩) | (go_at_call 41; (with_reducible refine (HK.out _).mono ?_); rintro e w1 ⟨rfl, rfl⟩) | (go_at_call 42; (with_reducible refine (HD.out _).mono ?_); rintro e w1 ⟨rfl, rfl⟩))
      go_returns
      exact ⟨rfl, by repeat (first | exact Mor.refl _ | apply Mor.alloc | apply Mor.more | apply Mor.drewN | apply Mor.drew)⟩
  · rw [if_pos h0]
    generalize entc key0 day0 xs = c at *
    have hb : (c != 0) = true := by simpa using h0
    clear hc h0
    go_enter Try.func15, Try.ntmps15
    go_wp2_with ((go_at_call 17; (with_reducible refine (HC.out _ HR.out.alloc.alloc).mono ?_); rintro e w1 ⟨rfl, bs, dr, rfl⟩))
    go_returns
    exact ⟨rfl, by repeat (first | exact Mor.refl _ | apply Mor.alloc | apply Mor.more | apply Mor.drewN | apply Mor.drew)⟩

abbrev s10 : ByteArray := { data := #[49, 48] }
abbrev s40 : ByteArray := { data := #[52, 48] }
set_option maxHeartbeats 400000 in
theorem sale_any (key : ByteArray) (at' n : Int) (w : World) (h1 : -1000000000000 ≤ n) (h2 : n ≤ 1000000000000) :
    Calls Try.prog 16 #[.string key, .int .i64 at', .int .i64 n] w fun e w' => ∃ g, e = .returned (.agg #[.string key, .int .i64 at', .slice (some ⟨g, 0, none⟩) 2 2]) ∧ Si w' (some ⟨g, 0, none⟩) [(s10, n), (s40, -n)] ∧ Mor w w' := by
  go_enter Try.func16, Try.ntmps16
  go_wp2
  go_returns
  refine ⟨_, rfl, ?_, by repeat (first | exact Mor.refl _ | apply Mor.alloc | apply Mor.more | apply Mor.drewN | apply Mor.drew)⟩
  refine Si.of_rd (Rd.new (flat pc [(s10, n), (s40, -n)]) ?_ ?_)
  · simp [go_sem]
  · simp [flat, pc]

set_option maxRecDepth 100000 in
set_option maxHeartbeats 1600000 in
theorem equal_ln (A A' : Option Addr) (n c c' : Nat) (xs : List Ln) (w : World) (hr : Si w A xs) (hr' : Si w A' xs) (hn : xs.length = n) (hl : n ≤ 1000) :
    Calls Try.prog 44 #[.slice A n c, .slice A' n c'] w fun e w' => e = .returned (.bool true) ∧ ∃ k, w' = w.drewN k := by
  have HR := Lib.hid hr
  have HR' := Lib.hid hr'
  have HN := Lib.hid hn
  clear hr hr' hn
  go_enter Try.func44, Try.ntmps44
  go_wp2
  go_loopw [13] (fun i wr => ∃ k m : Nat, k ≤ n ∧ i = .int .i64 k ∧ wr = w.drewN m) (fun i _ => n - (intOf i).toNat)
  case atStart => exact ⟨0, 0, Nat.zero_le _, rfl, rfl⟩
  case round =>
    obtain ⟨k, m, hk, rfl, rfl⟩ := hrel
    by_cases hlt : k < n
    · obtain ⟨x, hA, hxb, c1, c2⟩ := HR.out.at_ k (by rw [HN.out]; exact hlt)
      obtain ⟨y, hA', hyb, d1, d2⟩ := HR'.out.at_ k (by rw [HN.out]; exact hlt)
      subst hA hA'
      generalize cd xs k = s at *
      generalize am xs k = a at *
      have hi : ((k : Nat) : Int) < (n : Int) := by omega
      go_wp2
      go_quiet (fail)
      go_wp2
      go_roundw
      case rel => exact ⟨k + 1, _, by omega, by go_num, rfl⟩
      case measure => simp [intOf]; omega
    · have e : k = n := by omega
      subst e
      go_wp2
      go_ret
      exact ⟨rfl, _, rfl⟩

set_option maxHeartbeats 800000 in
theorem same_yes (key : ByteArray) (day : Int) (A A' : Option Addr) (n c c' : Nat) (xs : List Ln) (w : World) (hr : Si w A xs) (hr' : Si w A' xs) (hn : xs.length = n) (hl : n ≤ 1000) :
    Calls Try.prog 18 #[.agg #[.string key, .int .i64 day, .slice A n c], .agg #[.string key, .int .i64 day, .slice A' n c']] w fun e w' => e = .returned (.bool true) ∧ Mor w w' := by
  have HE := Lib.hid (fun w (h : Si w A xs) (h' : Si w A' xs) => equal_ln A A' n c c' xs w h h' hn hl)
  have HR := Lib.hid hr
  have HR' := Lib.hid hr'
  clear hr hr' hn
  go_enter Try.func18, Try.ntmps18
  go_wp2_with ((go_at_call 44; (with_reducible refine (HE.out _ HR.out.alloc.alloc HR'.out.alloc.alloc).mono ?_); rintro e w1 ⟨rfl, m, rfl⟩))
  go_ret
  exact ⟨rfl, by repeat (first | exact Mor.refl _ | apply Mor.alloc | apply Mor.more | apply Mor.drewN | apply Mor.drew)⟩

end Go.Proofs.Ytjolkmpoogpgnaa
