/- The walks of note.Rows and talkeep.interest. -/
import Derived.Test.YtahegjhjonodlaaDoorPNumbersOwnZ1
import Derived.Test.YtahegjhjonodlaaDoorPNumbersOwnZ3
import Derived.Test.YtahegjhjonodlaaDoorPNumbersOwnZ6
import Derived.Test.YtahegjhjonodlaaDoorPNumbersOwnZ7
import Derived.Test.YtahegjhjonodlaaDoorPNumbersOwnZ25
import Derived.Test.YtahegjhjonodlaaDoorRows
import Derived.BigQuiet
import Derived.Deep.QuietTactic
import Derived.Handy
import Derived.Lib.Hide
import Derived.OpenShut
import Derived.Outline
import Derived.OwnWalk
import Derived.ProofKit
import Derived.RegionTactic
import Derived.WalkKit
import Derived.WalkSpells
namespace Go.Proofs.YtahegjhjonodlaaDoor
open Go.ChangeShapes Go.WideShapes Go.ChangeAt Go.RowKit
set_option linter.unusedVariables false
set_option maxRecDepth 100000

@[go_sem] theorem eql_nil_row (w : World) (a : Option Addr) (n c : Nat) : (binOp .eql 34 (.slice a n c) (.slice none 0 0)).run Tryd.prog w = .ok (.bool a.isNone) w :=
  Lib.run_eql_slice_nil w _ 42 a n c 0 0 Tryd.underlying34
@[go_sem] theorem neq_nil_row (w : World) (a : Option Addr) (n c : Nat) : (binOp .neq 34 (.slice a n c) (.slice none 0 0)).run Tryd.prog w = .ok (.bool (!a.isNone)) w :=
  run_neq_slice_nil_any w _ 42 a n c 0 0 Tryd.underlying34

set_option maxRecDepth 100000 in
set_option maxHeartbeats 1600000 in
theorem rows_none (o r p : Int) (w : World) (hl : loanP o r) (h : o = 0 ∨ (1 ≤ o ∧ p ≤ nint o r)) :
    Calls Tryd.prog 64 #[.int .i64 o, .int .i64 r, .int .i64 p] w fun e w' => e = .returned (.slice none 0 0) ∧ ∃ k, w' = w.drewN k := by
  obtain ⟨l1, l2, l3, l4⟩ := hl
  rcases h with h | ⟨h1, hp⟩
  · subst h
    go_enter Tryd.func64, Tryd.ntmps64
    go_wp2_with fail
    go_loopw [0, 7] (fun ow v wr => ow = .int .i64 0 ∧ v = .slice none 0 0 ∧ wr = w) (fun ow _ _ => 0)
    case atStart => exact ⟨rfl, rfl, rfl⟩
    case round =>
      obtain ⟨rfl, rfl, rfl⟩ := hrel
      go_wp2_with fail
      go_ret
      exact ⟨rfl, 0, rfl⟩
  · obtain ⟨pb1, pb2⟩ := prod_bd o r 1000000000000 1000000 (by omega) (by omega) l3 l4 (by omega)
    have HC := Lib.hid (fun w => show Calls Tryd.prog 58 #[.int .i64 (o * r), .int .i64 1000000, .int .i64 2] w fun e w' => e = .returned (.int .i64 (nint o r)) ∧ ∃ k, w' = w.drewN k from rounded_any (o * r) 1000000 2 w (by omega) (by omega) (by omega) (by omega))
    generalize nint o r = i at *
    go_enter Tryd.func64, Tryd.ntmps64
    go_wp2_with fail
    go_loopw [0, 7] (fun ow v wr => ow = .int .i64 o ∧ v = .slice none 0 0 ∧ wr = w) (fun ow _ _ => 0)
    case atStart => exact ⟨rfl, rfl, rfl⟩
    case round =>
      obtain ⟨rfl, rfl, rfl⟩ := hrel
      go_wp2_with (first | (go_at_call 58; (with_reducible refine (HC.out _).mono ?_); rintro e w1 ⟨rfl, m, rfl⟩))
      go_ret
      exact ⟨rfl, _, rfl⟩

/-- are there rows? -/
def rowsP (o r p : Int) : Prop := loanP o r ∧ 1 ≤ p ∧ p ≤ 2000000000000
def rcode (o r p : Int) : Int := if loanP o r ∧ 1 ≤ p ∧ p ≤ 2000000000000 then (if p ≤ nint o r then 7 else 2) else 1

def RowsBad (w : World) (c : Int) (e : Ending) (w' : World) : Prop :=
  ∃ bs k, e = .returned (.tuple #[.slice none 0 0, .int .i64 c]) ∧ w' = more w bs k

set_option maxRecDepth 100000 in
set_option maxHeartbeats 1600000 in
theorem Rows_bad (o r p : Int) (w : World) (h : ¬ (rowsP o r p ∧ okp o r 40 p)) :
    Calls Tryd.prog 17 #[.int .i64 o, .int .i64 r, .int .i64 p] w (RowsBad w (rcode o r p)) := by
  by_cases hl : loanP o r
  · have HL := Lib.hid (fun w => nlook_ok o r w hl)
    by_cases hp : 1 ≤ p ∧ p ≤ 2000000000000
    · have hz : o ≠ 0 := fun hz => h ⟨⟨hl, hp⟩, .inl hz⟩
      have ho1 : 1 ≤ o := by have := hl.1; omega
      by_cases hn : p ≤ nint o r
      · have hrc : rcode o r p = 7 := by unfold rcode; rw [if_pos ⟨hl, hp⟩, if_pos hn]
        rw [hrc]
        have HC := Lib.hid (fun w => rows_none o r p w hl (.inr ⟨ho1, hn⟩))
        obtain ⟨hp1, hp2⟩ := hp
        clear hl h hrc hn hz
        go_enter Tryd.func17, Tryd.ntmps17
        go_wp2_with (first | (go_at_call 63; (with_reducible refine (HL.out _).mono ?_); rintro e w1 ⟨rfl, rfl⟩) | (go_at_call 64; (with_reducible refine (HC.out _).mono ?_); rintro e w1 ⟨rfl, k, rfl⟩))
        go_returns
        exact ⟨[], _, rfl, (more_nil _ _).symm⟩
      · have hrc : rcode o r p = 2 := by unfold rcode; rw [if_pos ⟨hl, hp⟩, if_neg hn]
        rw [hrc]
        have hno : nl o r p 40 ≠ 0 := fun e => h ⟨⟨hl, hp⟩, .inr ⟨by omega, e⟩⟩
        have HC := Lib.hid (fun w => rows_some o r p w hl (by omega) ho1 (by omega))
        obtain ⟨hp1, hp2⟩ := hp
        have HB := Lib.hid hno
        clear hl h hrc hn hz hno
        go_enter Tryd.func17, Tryd.ntmps17
        go_wp2_with (first | (go_at_call 63; (with_reducible refine (HL.out _).mono ?_); rintro e w1 ⟨rfl, rfl⟩))
        refine (HC.out _).mono ?_
        rintro e w1 ⟨T, g, c, bs, k, rfl, rfl, hT, h1, h2, hr⟩
        have t40 : 40 < T := by
          rcases Nat.lt_or_ge 40 T with a | a
          · exact a
          · exact absurd ((hT.end_ (by omega) (Nat.le_refl _)).1 a) HB.out
        clear hT hr
        go_wp2_with fail
        go_returns
        exact ⟨bs, k, rfl, rfl⟩
    · have hrc : rcode o r p = 1 := by unfold rcode; rw [if_neg (fun h => hp h.2)]
      rw [hrc]
      have hc : p < 1 ∨ (1 ≤ p ∧ 2000000000000 < p) := by omega
      clear hrc h hl hp
      rcases hc with hp | ⟨hp, hp'⟩
      all_goals
        go_enter Tryd.func17, Tryd.ntmps17
        go_wp2_with (first | (go_at_call 63; (with_reducible refine (HL.out _).mono ?_); rintro e w1 ⟨rfl, rfl⟩))
        go_returns
        exact ⟨[], _, rfl, more_zero _⟩
  · have hrc : rcode o r p = 1 := by unfold rcode; rw [if_neg (fun h => hl h.1)]
    rw [hrc]
    have HL := Lib.hid (fun w => nlook_no o r w hl)
    clear hrc h hl
    go_enter Tryd.func17, Tryd.ntmps17
    go_wp2_with (first | (go_at_call 63; (with_reducible refine (HL.out _).mono ?_); rintro e w1 ⟨rfl, rfl⟩))
    go_returns
    exact ⟨[], _, rfl, more_zero _⟩

end Go.Proofs.YtahegjhjonodlaaDoor

/- note.Rows: what it hands back is a row of the call's own, and the same at each call. -/
namespace Go.Proofs.YtahegjhjonodlaaDoor
open Go.ChangeShapes Go.WideShapes Go.ChangeAt Go.RowKit
set_option linter.unusedVariables false
set_option maxRecDepth 100000

/-- a row of rows that the call made, with the cells of the first T -/
def RowsOwn (w : World) (o r p : Int) (T : Nat) (c : Int) (e : Ending) (w' : World) : Prop :=
  ∃ v, e = .returned (.tuple #[v, .int .i64 c]) ∧ w'.ownsRow w.heap.size 42 3 v T (nrows o r p T) ∧ Mor w w'
def RowsOwnG (w : World) (o r p : Int) (e : Ending) (w' : World) : Prop := ∃ T, NT o r p T ∧ T ≤ 40 ∧ RowsOwn w o r p T 0 e w'

set_option maxHeartbeats 1600000 in
theorem Rows_good2 (o r p : Int) (w : World) (h : rowsP o r p) (ho : okp o r 40 p) :
    Calls Tryd.prog 17 #[.int .i64 o, .int .i64 r, .int .i64 p] w (RowsOwnG w o r p) := by
  obtain ⟨hl, hp1, hp2⟩ := h
  have HL := Lib.hid (fun w => nlook_ok o r w hl)
  by_cases hz : o = 0
  · subst hz
    have HC := Lib.hid (fun w => rows_none 0 r p w hl (.inl rfl))
    clear hl ho
    go_enter Tryd.func17, Tryd.ntmps17
    go_wp2_with (first | (go_at_call 63; (with_reducible refine (HL.out _).mono ?_); rintro e w1 ⟨rfl, rfl⟩) | (go_at_call 64; (with_reducible refine (HC.out _).mono ?_); rintro e w1 ⟨rfl, k, rfl⟩))
    go_returns
    exact ⟨0, ⟨by omega, fun k hk => absurd hk (Nat.not_lt_zero _), .inr rfl⟩, by omega, _, rfl, World.ownsRow_nil _ _ _ _, (Mor.refl w).drewN⟩
  · have ho1 : 1 ≤ o := by have := hl.1; omega
    rcases ho with ho | ⟨ha, hb⟩
    · exact absurd ho hz
    · have HC := Lib.hid (fun w => rows_some2 o r p w hl (by omega) ho1 ha)
      clear hl ha hz
      have HB := Lib.hid hb
      clear hb
      go_enter Tryd.func17, Tryd.ntmps17
      go_wp2_with (first | (go_at_call 63; (with_reducible refine (HL.out _).mono ?_); rintro e w1 ⟨rfl, rfl⟩))
      refine (HC.out _).mono ?_
      rintro e w1 ⟨T, A, c, rfl, hT, h1, hown, hbel⟩
      have t40 : T ≤ 40 := (hT.end_ (by omega) (Nat.le_refl _)).2 HB.out
      have HT := Lib.hid hT
      have HR := Lib.hid hown
      have HX := Lib.hid hbel
      obtain ⟨A', c', e1, hkc, hrd, hag⟩ := own_shape hown
      injection e1 with e2 _ e3
      subst e2 e3
      obtain ⟨g, rfl, hg⟩ := hag h1
      clear hT hown hbel hrd hag
      go_wp2_with fail
      go_returns
      exact ⟨T, HT.out, t40, _, rfl, HR.out, Mor.of_below HX.out⟩

/-- the same row at each call -/
theorem Rows_own (o r p : Int) : ∃ T c, T ≤ 40 ∧ ∀ w, Calls Tryd.prog 17 #[.int .i64 o, .int .i64 r, .int .i64 p] w (RowsOwn w o r p T c) := by
  by_cases h : rowsP o r p ∧ okp o r 40 p
  · by_cases hT : ∃ T, NT o r p T ∧ T ≤ 40
    · obtain ⟨T, hT, h40⟩ := hT
      refine ⟨T, 0, h40, fun w => (Rows_good2 o r p w h.1 h.2).mono ?_⟩
      rintro e w' ⟨T', hT', _, hr⟩
      have e1 := NT.le hT hT' (fun k => Int.le_refl _)
      have e2 := NT.le hT' hT (fun k => Int.le_refl _)
      obtain rfl : T' = T := by omega
      exact hr
    · refine ⟨0, 0, by omega, fun w => (Rows_good2 o r p w h.1 h.2).mono ?_⟩
      rintro e w' ⟨T', hT', h40, hr⟩
      exact absurd ⟨T', hT', h40⟩ hT
  · refine ⟨0, rcode o r p, by omega, fun w => (Rows_bad o r p w h).mono ?_⟩
    rintro e w' ⟨bs, k, rfl, rfl⟩
    exact ⟨_, rfl, World.ownsRow_nil _ _ _ _, (Mor.refl w).more⟩

end Go.Proofs.YtahegjhjonodlaaDoor
