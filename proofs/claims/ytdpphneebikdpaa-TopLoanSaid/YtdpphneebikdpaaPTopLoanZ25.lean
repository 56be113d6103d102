/- The walks of note.Rows and talkeep.interest. -/
import Derived.Test.YtdpphneebikdpaaPTopLoanZ1
import Derived.Test.YtdpphneebikdpaaPTopLoanZ9
import Derived.Test.YtdpphneebikdpaaPTopLoanZ20
import Derived.Test.YtdpphneebikdpaaPTopLoanZ21
import Derived.Test.YtdpphneebikdpaaPTopLoanZ24
import Derived.Test.YtdpphneebikdpaaRows
import Derived.BigQuiet
import Derived.Deep.QuietTactic
import Derived.Handy
import Derived.Lib.Hide
import Derived.OpenShut
import Derived.Outline
import Derived.OwnWalk
import Derived.ProofKit
import Derived.RegionTactic
import Derived.WalkKit
import Derived.WalkSpells
namespace Go.Proofs.Ytdpphneebikdpaa
open Go.ChangeShapes Go.WideShapes Go.ChangeAt Go.RowKit
set_option linter.unusedVariables false
set_option maxRecDepth 100000

@[go_sem] theorem eql_nil_row (w : World) (a : Option Addr) (n c : Nat) : (binOp .eql 58 (.slice a n c) (.slice none 0 0)).run Try.prog w = .ok (.bool a.isNone) w :=
  Lib.run_eql_slice_nil w _ 62 a n c 0 0 Try.underlying58
@[go_sem] theorem neq_nil_row (w : World) (a : Option Addr) (n c : Nat) : (binOp .neq 58 (.slice a n c) (.slice none 0 0)).run Try.prog w = .ok (.bool (!a.isNone)) w :=
  run_neq_slice_nil_any w _ 62 a n c 0 0 Try.underlying58

set_option maxRecDepth 100000 in
set_option maxHeartbeats 1600000 in
theorem rows_none (o r p : Int) (w : World) (hl : loanP o r) (h : o = 0 ∨ (1 ≤ o ∧ p ≤ nint o r)) :
    Calls Try.prog 53 #[.int .i64 o, .int .i64 r, .int .i64 p] w fun e w' => e = .returned (.slice none 0 0) ∧ ∃ k, w' = w.drewN k := by
  obtain ⟨l1, l2, l3, l4⟩ := hl
  rcases h with h | ⟨h1, hp⟩
  · subst h
    go_enter Try.func53, Try.ntmps53
    go_wp2_with fail
    go_loopw [0, 7] (fun ow v wr => ow = .int .i64 0 ∧ v = .slice none 0 0 ∧ wr = w) (fun ow _ _ => 0)
    case atStart => exact ⟨rfl, rfl, rfl⟩
    case round =>
      obtain ⟨rfl, rfl, rfl⟩ := hrel
      go_wp2_with fail
      go_ret
      exact ⟨rfl, 0, rfl⟩
  · obtain ⟨pb1, pb2⟩ := prod_bd o r 1000000000000 1000000 (by omega) (by omega) l3 l4 (by omega)
    have HC := Lib.hid (fun w => show Calls Try.prog 83 #[.int .i64 (o * r), .int .i64 1000000, .int .i64 2] w fun e w' => e = .returned (.int .i64 (nint o r)) ∧ ∃ k, w' = w.drewN k from rounded_any (o * r) 1000000 2 w (by omega) (by omega) (by omega) (by omega))
    generalize nint o r = i at *
    go_enter Try.func53, Try.ntmps53
    go_wp2_with fail
    go_loopw [0, 7] (fun ow v wr => ow = .int .i64 o ∧ v = .slice none 0 0 ∧ wr = w) (fun ow _ _ => 0)
    case atStart => exact ⟨rfl, rfl, rfl⟩
    case round =>
      obtain ⟨rfl, rfl, rfl⟩ := hrel
      go_wp2_with (first | (go_at_call 83; (with_reducible refine (HC.out _).mono ?_); rintro e w1 ⟨rfl, m, rfl⟩))
      go_ret
      exact ⟨rfl, _, rfl⟩

/-- are there rows? -/
def rowsP (o r p : Int) : Prop := loanP o r ∧ 1 ≤ p ∧ p ≤ 2000000000000
/-- what note.Rows hands back -/
def RowsGood (w : World) (o r p : Int) (e : Ending) (w' : World) : Prop :=
  ∃ T A c bs k, e = .returned (.tuple #[.slice A T c, .int .i64 0]) ∧ w' = more w bs k ∧ (NT o r p T ∧ ∀ k, nl o r p k ≤ o) ∧ T ≤ 40 ∧ T ≤ c ∧ Rd (more w bs k) A (nrows o r p T)
set_option maxRecDepth 100000 in
set_option maxHeartbeats 1600000 in
theorem Rows_good (o r p : Int) (w : World) (h : rowsP o r p) (ho : okp o r 40 p) :
    Calls Try.prog 23 #[.int .i64 o, .int .i64 r, .int .i64 p] w (RowsGood w o r p) := by
  obtain ⟨hl, hp1, hp2⟩ := h
  have HL := Lib.hid (fun w => nlook_ok o r w hl)
  have HLE := Lib.hid (okp_le o r p 40 hl.1 hl.2.2.1 hl.2.2.2 (by omega) ho)
  by_cases hz : o = 0
  · subst hz
    have HC := Lib.hid (fun w => rows_none 0 r p w hl (.inl rfl))
    clear hl ho
    go_enter Try.func23, Try.ntmps23
    go_wp2_with (first | (go_at_call 50; (with_reducible refine (HL.out _).mono ?_); rintro e w1 ⟨rfl, rfl⟩) | (go_at_call 53; (with_reducible refine (HC.out _).mono ?_); rintro e w1 ⟨rfl, k, rfl⟩))
    go_returns
    exact ⟨0, none, 0, [], _, rfl, (more_nil _ _).symm, ⟨⟨by omega, fun k hk => absurd hk (Nat.not_lt_zero _), .inr rfl⟩, HLE.out⟩, by omega, by omega, Rd.nil _ _⟩
  · have ho1 : 1 ≤ o := by have := hl.1; omega
    rcases ho with ho | ⟨ha, hb⟩
    · exact absurd ho hz
    · have HC := Lib.hid (fun w => rows_some o r p w hl (by omega) ho1 ha)
      clear hl ha hz
      have HB := Lib.hid hb
      clear hb
      go_enter Try.func23, Try.ntmps23
      go_wp2_with (first | (go_at_call 50; (with_reducible refine (HL.out _).mono ?_); rintro e w1 ⟨rfl, rfl⟩))
      refine (HC.out _).mono ?_
      rintro e w1 ⟨T, g, c, bs, k, rfl, rfl, hT, h1, h2, hr⟩
      have t40 : T ≤ 40 := (hT.end_ (by omega) (Nat.le_refl _)).2 HB.out
      have HT := Lib.hid hT
      have HR := Lib.hid hr
      clear hT hr
      go_wp2_with fail
      go_returns
      exact ⟨T, _, c, bs, k, rfl, rfl, ⟨HT.out, HLE.out⟩, t40, h2, HR.out⟩

end Go.Proofs.Ytdpphneebikdpaa
