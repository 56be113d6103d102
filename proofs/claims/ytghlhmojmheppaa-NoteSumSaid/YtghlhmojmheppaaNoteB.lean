/- The walks of note.Rows and talkeep.interest. -/
import Derived.Test.YtghlhmojmheppaaNoteA
import Derived.WalkSpells
namespace Go.Proofs.Ytghlhmojmheppaa
open Go.ChangeShapes Go.WideShapes Go.ChangeAt Go.RowKit
set_option linter.unusedVariables false

@[go_sem] theorem eql_nil_row (w : World) (a : Option Addr) (n c : Nat) : (binOp .eql 37 (.slice a n c) (.slice none 0 0)).run Try.prog w = .ok (.bool a.isNone) w :=
  Lib.run_eql_slice_nil w _ 43 a n c 0 0 Try.underlying37
@[go_sem] theorem neq_nil_row (w : World) (a : Option Addr) (n c : Nat) : (binOp .neq 37 (.slice a n c) (.slice none 0 0)).run Try.prog w = .ok (.bool (!a.isNone)) w :=
  run_neq_slice_nil_any w _ 43 a n c 0 0 Try.underlying37

set_option maxRecDepth 100000 in
set_option maxHeartbeats 1600000 in
theorem rows_none (o r p : Int) (w : World) (hl : loanP o r) (h : o = 0 ∨ (1 ≤ o ∧ p ≤ nint o r)) :
    Calls Try.prog 46 #[.int .i64 o, .int .i64 r, .int .i64 p] w fun e w' => e = .returned (.slice none 0 0) ∧ ∃ k, w' = w.drewN k := by
  obtain ⟨l1, l2, l3, l4⟩ := hl
  rcases h with h | ⟨h1, hp⟩
  · subst h
    go_enter Try.func46, Try.ntmps46
    go_wp2_with fail
    go_loopw [0, 7] (fun ow v wr => ow = .int .i64 0 ∧ v = .slice none 0 0 ∧ wr = w) (fun ow _ _ => 0)
    case atStart => exact ⟨rfl, rfl, rfl⟩
    case round =>
      obtain ⟨rfl, rfl, rfl⟩ := hrel
      go_wp2_with fail
      go_ret
      exact ⟨rfl, 0, rfl⟩
  · obtain ⟨pb1, pb2⟩ := prod_bd o r 1000000000000 1000000 (by omega) (by omega) l3 l4 (by omega)
    have HC := Lib.hid (fun w => show Calls Try.prog 42 #[.int .i64 (o * r), .int .i64 1000000, .int .i64 2] w fun e w' => e = .returned (.int .i64 (nint o r)) ∧ ∃ k, w' = w.drewN k from rounded_any (o * r) 1000000 2 w (by omega) (by omega) (by omega) (by omega))
    generalize nint o r = i at *
    go_enter Try.func46, Try.ntmps46
    go_wp2_with fail
    go_loopw [0, 7] (fun ow v wr => ow = .int .i64 o ∧ v = .slice none 0 0 ∧ wr = w) (fun ow _ _ => 0)
    case atStart => exact ⟨rfl, rfl, rfl⟩
    case round =>
      obtain ⟨rfl, rfl, rfl⟩ := hrel
      go_wp2_with (first | (go_at_call 42; (with_reducible refine (HC.out _).mono ?_); rintro e w1 ⟨rfl, m, rfl⟩))
      go_ret
      exact ⟨rfl, _, rfl⟩

/-- are there rows? -/
def rowsP (o r p : Int) : Prop := loanP o r ∧ 1 ≤ p ∧ p ≤ 2000000000000
def rcode (o r p : Int) : Int := if loanP o r ∧ 1 ≤ p ∧ p ≤ 2000000000000 then (if p ≤ nint o r then 7 else 2) else 1

/-- what note.Rows hands back -/
def RowsGood (w : World) (o r p : Int) (e : Ending) (w' : World) : Prop :=
  ∃ T A c bs k, e = .returned (.tuple #[.slice A T c, .int .i64 0]) ∧ w' = more w bs k ∧ (NT o r p T ∧ ∀ k, nl o r p k ≤ o) ∧ T ≤ 40 ∧ T ≤ c ∧ Rd (more w bs k) A (nrows o r p T)
def RowsBad (w : World) (c : Int) (e : Ending) (w' : World) : Prop :=
  ∃ bs k, e = .returned (.tuple #[.slice none 0 0, .int .i64 c]) ∧ w' = more w bs k

set_option maxRecDepth 100000 in
set_option maxHeartbeats 1600000 in
theorem Rows_good (o r p : Int) (w : World) (h : rowsP o r p) (ho : okp o r 40 p) :
    Calls Try.prog 24 #[.int .i64 o, .int .i64 r, .int .i64 p] w (RowsGood w o r p) := by
  obtain ⟨hl, hp1, hp2⟩ := h
  have HL := Lib.hid (fun w => nlook_ok o r w hl)
  have HLE := Lib.hid (okp_le o r p 40 hl.1 hl.2.2.1 hl.2.2.2 (by omega) ho)
  by_cases hz : o = 0
  · subst hz
    have HC := Lib.hid (fun w => rows_none 0 r p w hl (.inl rfl))
    clear hl ho
    go_enter Try.func24, Try.ntmps24
    go_wp2_with (first | (go_at_call 45; (with_reducible refine (HL.out _).mono ?_); rintro e w1 ⟨rfl, rfl⟩) | (go_at_call 46; (with_reducible refine (HC.out _).mono ?_); rintro e w1 ⟨rfl, k, rfl⟩))
    go_returns
    exact ⟨0, none, 0, [], _, rfl, (more_nil _ _).symm, ⟨⟨by omega, fun k hk => absurd hk (Nat.not_lt_zero _), .inr rfl⟩, HLE.out⟩, by omega, by omega, Rd.nil _ _⟩
  · have ho1 : 1 ≤ o := by have := hl.1; omega
    rcases ho with ho | ⟨ha, hb⟩
    · exact absurd ho hz
    · have HC := Lib.hid (fun w => rows_some o r p w hl (by omega) ho1 ha)
      clear hl ha hz
      have HB := Lib.hid hb
      clear hb
      go_enter Try.func24, Try.ntmps24
      go_wp2_with (first | (go_at_call 45; (with_reducible refine (HL.out _).mono ?_); rintro e w1 ⟨rfl, rfl⟩))
      refine (HC.out _).mono ?_
      rintro e w1 ⟨T, g, c, bs, k, rfl, rfl, hT, h1, h2, hr⟩
      have t40 : T ≤ 40 := (hT.end_ (by omega) (Nat.le_refl _)).2 HB.out
      have HT := Lib.hid hT
      have HR := Lib.hid hr
      clear hT hr
      go_wp2_with fail
      go_returns
      exact ⟨T, _, c, bs, k, rfl, rfl, ⟨HT.out, HLE.out⟩, t40, h2, HR.out⟩

set_option maxRecDepth 100000 in
set_option maxHeartbeats 1600000 in
theorem Rows_bad (o r p : Int) (w : World) (h : ¬ (rowsP o r p ∧ okp o r 40 p)) :
    Calls Try.prog 24 #[.int .i64 o, .int .i64 r, .int .i64 p] w (RowsBad w (rcode o r p)) := by
  by_cases hl : loanP o r
  · have HL := Lib.hid (fun w => nlook_ok o r w hl)
    by_cases hp : 1 ≤ p ∧ p ≤ 2000000000000
    · have hz : o ≠ 0 := fun hz => h ⟨⟨hl, hp⟩, .inl hz⟩
      have ho1 : 1 ≤ o := by have := hl.1; omega
      by_cases hn : p ≤ nint o r
      · have hrc : rcode o r p = 7 := by unfold rcode; rw [if_pos ⟨hl, hp⟩, if_pos hn]
        rw [hrc]
        have HC := Lib.hid (fun w => rows_none o r p w hl (.inr ⟨ho1, hn⟩))
        obtain ⟨hp1, hp2⟩ := hp
        clear hl h hrc hn hz
        go_enter Try.func24, Try.ntmps24
        go_wp2_with (first | (go_at_call 45; (with_reducible refine (HL.out _).mono ?_); rintro e w1 ⟨rfl, rfl⟩) | (go_at_call 46; (with_reducible refine (HC.out _).mono ?_); rintro e w1 ⟨rfl, k, rfl⟩))
        go_returns
        exact ⟨[], _, rfl, (more_nil _ _).symm⟩
      · have hrc : rcode o r p = 2 := by unfold rcode; rw [if_pos ⟨hl, hp⟩, if_neg hn]
        rw [hrc]
        have hno : nl o r p 40 ≠ 0 := fun e => h ⟨⟨hl, hp⟩, .inr ⟨by omega, e⟩⟩
        have HC := Lib.hid (fun w => rows_some o r p w hl (by omega) ho1 (by omega))
        obtain ⟨hp1, hp2⟩ := hp
        have HB := Lib.hid hno
        clear hl h hrc hn hz hno
        go_enter Try.func24, Try.ntmps24
        go_wp2_with (first | (go_at_call 45; (with_reducible refine (HL.out _).mono ?_); rintro e w1 ⟨rfl, rfl⟩))
        refine (HC.out _).mono ?_
        rintro e w1 ⟨T, g, c, bs, k, rfl, rfl, hT, h1, h2, hr⟩
        have t40 : 40 < T := by
          rcases Nat.lt_or_ge 40 T with a | a
          · exact a
          · exact absurd ((hT.end_ (by omega) (Nat.le_refl _)).1 a) HB.out
        clear hT hr
        go_wp2_with fail
        go_returns
        exact ⟨bs, k, rfl, rfl⟩
    · have hrc : rcode o r p = 1 := by unfold rcode; rw [if_neg (fun h => hp h.2)]
      rw [hrc]
      have hc : p < 1 ∨ (1 ≤ p ∧ 2000000000000 < p) := by omega
      clear hrc h hl hp
      rcases hc with hp | ⟨hp, hp'⟩
      all_goals
        go_enter Try.func24, Try.ntmps24
        go_wp2_with (first | (go_at_call 45; (with_reducible refine (HL.out _).mono ?_); rintro e w1 ⟨rfl, rfl⟩))
        go_returns
        exact ⟨[], _, rfl, more_zero _⟩
  · have hrc : rcode o r p = 1 := by unfold rcode; rw [if_neg (fun h => hl h.1)]
    rw [hrc]
    have HL := Lib.hid (fun w => nlook_no o r w hl)
    clear hrc h hl
    go_enter Try.func24, Try.ntmps24
    go_wp2_with (first | (go_at_call 45; (with_reducible refine (HL.out _).mono ?_); rintro e w1 ⟨rfl, rfl⟩))
    go_returns
    exact ⟨[], _, rfl, more_zero _⟩

theorem rcode_ne (o r p : Int) : rcode o r p ≠ 0 := by unfold rcode; split <;> (try split) <;> omega
def RowsAny (w : World) (o r p : Int) (e : Ending) (w' : World) : Prop := RowsGood w o r p e w' ∨ ∃ c, c ≠ 0 ∧ RowsBad w c e w'
theorem Rows_any (o r p : Int) (w : World) :
    Calls Try.prog 24 #[.int .i64 o, .int .i64 r, .int .i64 p] w (RowsAny w o r p) := by
  by_cases h : rowsP o r p ∧ okp o r 40 p
  · exact (Rows_good o r p w h.1 h.2).mono fun _ _ h => .inl h
  · exact (Rows_bad o r p w h).mono fun _ _ h => .inr ⟨_, rcode_ne o r p, h⟩

set_option maxRecDepth 100000 in
set_option maxHeartbeats 1600000 in
theorem interest_any (A : Option Addr) (T c : Nat) (o r p : Int) (w : World) (hl : loanP o r) (hT : T ≤ 40) (hle : ∀ k, nl o r p k ≤ o) (hr : Rd w A (nrows o r p T)) :
    Calls Try.prog 25 #[.slice A T c] w fun e w' => e = .returned (.int .i64 (nsum o r p T)) ∧ ∃ bs, w' = more w bs w.drawn := by
  obtain ⟨l1, l2, l3, l4⟩ := hl
  have HB := Lib.hid (fun k => nsum_bd o r p l1 l2 l3 l4 hle k)
  have HN := Lib.hid (fun k => nint_bd (nl o r p k) r (nl_nonneg o r p l1 k) l3 l4)
  have HE := Lib.hid hle
  have HF := Lib.hid (fun k (hk : k < T) W (hm : Mor w W) => Rd.field 3 (nrow_len o r p) (hr.mor hm) k (by simpa using hk) (by omega))
  clear hle hr
  go_enter Try.func25, Try.ntmps25
  go_wp2_with fail
  go_loopw [3, 8] (fun s i wr => ∃ k : Nat, k ≤ T ∧ i = .int .i64 k ∧ s = .int .i64 (nsum o r p k) ∧ Hid (∃ bs, wr = more w bs w.drawn)) (fun _ i _ => T - (intOf i).toNat)
  case atStart => exact ⟨0, Nat.zero_le _, rfl, rfl, Lib.hid ⟨[], more_zero _⟩⟩
  case round =>
    obtain ⟨k, hk, rfl, rfl, hm⟩ := hrel
    by_cases hlt : k < T
    · obtain ⟨b, off, hA, hb, hc⟩ := HF.out k hlt wr (by obtain ⟨bs, e⟩ := hm.out; exact ⟨bs, _, e⟩)
      subst hA
      have c0 := hc 0 (by omega)
      have c1 := hc 1 (by omega)
      have c2 := hc 2 (by omega)
      simp [nrow] at c0 c1 c2
      clear hc
      obtain ⟨b1, b2⟩ := HB.out k
      obtain ⟨n1, n2⟩ := HN.out k
      have n3 := HE.out k
      have hi : ((k : Nat) : Int) < (T : Int) := by omega
      go_wp2_with fail
      go_roundw
      case rel => exact ⟨k + 1, by omega, by go_num, rfl, Lib.hid (by obtain ⟨bs, e⟩ := hm.out; subst e; exact ⟨_, more_alloc _ _ _ _⟩)⟩
      case measure => simp [intOf]; omega
    · have e : k = T := by omega
      subst e
      obtain ⟨bs, e⟩ := hm.out
      clear hm
      subst e
      go_wp2_with fail
      go_ret
      exact ⟨rfl, bs, rfl⟩

end Go.Proofs.Ytghlhmojmheppaa
