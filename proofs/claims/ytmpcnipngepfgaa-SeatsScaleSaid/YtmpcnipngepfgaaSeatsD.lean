/- The walk of seats.Quotas. -/
import Derived.Test.YtmpcnipngepfgaaSeatsC
namespace Go.Proofs.Ytmpcnipngepfgaa
open Go.ChangeShapes Go.WideShapes Go.ChangeAt Go.RowKit
set_option linter.unusedVariables false

/-- the quotas, rounded down -/
def quo (n S : Int) (vs : List Int) : List Int := vs.map (fun v => n * v / S)
theorem quo_len (n S : Int) (vs : List Int) : (quo n S vs).length = vs.length := by simp [quo]
theorem quo_get (n S : Int) (vs : List Int) (i : Nat) (hi : i < vs.length) : (quo n S vs).getD i 0 = n * vs.getD i 0 / S := by
  simp [quo, List.getD_eq_getElem?_getD, hi]
/-- the block after k rounds -/
def quoK (n S : Int) (vs : List Int) (k : Nat) : List Int := (List.range vs.length).map (fun i => if i < k then n * vs.getD i 0 / S else 0)
theorem quoK_len (n S : Int) (vs : List Int) (k : Nat) : (quoK n S vs k).length = vs.length := by simp [quoK]
theorem quoK_get (n S : Int) (vs : List Int) (k i : Nat) : (quoK n S vs k)[i]? = if i < vs.length then some (if i < k then n * vs.getD i 0 / S else 0) else none := by
  unfold quoK
  rw [List.getElem?_map]
  by_cases h : i < vs.length
  · rw [List.getElem?_range h, if_pos h]; rfl
  · rw [List.getElem?_eq_none (by simpa using h), if_neg h]; rfl
theorem quoK_zero (n S : Int) (vs : List Int) : List.replicate vs.length 0 = quoK n S vs 0 := by
  apply List.ext_getElem?
  intro i
  rw [quoK_get, List.getElem?_replicate]
  by_cases h : i < vs.length <;> simp [h]
theorem quoK_end (n S : Int) (vs : List Int) : quoK n S vs vs.length = quo n S vs := by
  apply List.ext_getElem?
  intro i
  rw [quoK_get]
  by_cases h : i < vs.length
  · rw [if_pos h, if_pos h]; simp [quo, List.getD_eq_getElem?_getD, h]
  · rw [if_neg h, List.getElem?_eq_none (by rw [quo_len]; omega)]
theorem quoK_step (n S : Int) (vs : List Int) (k : Nat) (hk : k < vs.length) : (quoK n S vs k).set k (n * vs.getD k 0 / S) = quoK n S vs (k + 1) := by
  apply List.ext_getElem?
  intro i
  rw [List.getElem?_set, quoK_len, quoK_get, quoK_get]
  by_cases e : k = i
  · subst e; rw [if_pos rfl, if_pos hk, if_pos hk, if_pos (by omega)]
  · rw [if_neg e]
    by_cases h1 : i < k
    · rw [if_pos h1, if_pos (show i < k + 1 by omega)]
    · rw [if_neg h1, if_neg (show ¬ i < k + 1 by omega)]

/-- what seats.Quotas hands back -/
def QuotasPost (w : World) (n : Int) (vs : List Int) (e : Ending) (w' : World) : Prop :=
  ∃ g bs k, e = .returned (.tuple #[.slice (some ⟨g, 0, none⟩) vs.length vs.length, .int .i64 0]) ∧ w' = more w bs k ∧ Row (more w bs k) g 0 (quo n vs.sum vs)

set_option maxRecDepth 100000 in
set_option maxHeartbeats 3200000 in
theorem quotas_ok (n : Int) (A : Option Addr) (m cap : Nat) (vs : List Int) (w : World) (hr : Ri w A vs) (hm : vs.length = m) (hc : lcode n vs = 0) :
    Calls Try.prog 21 #[.int .i64 n, .slice A m cap] w (QuotasPost w n vs) := by
  obtain ⟨c1, c2, c3, c4, c5⟩ := lcode_zero hc
  have hmk := fun w => run_make_row' (P := Try.prog) 22 3 (.int .i64 0) 8 Try.underlying22 info_int rfl .i64 .i64 m (by omega) (by omega) w
  have hlv : lval n vs = vs.sum := by unfold lval; rw [if_pos hc]
  have HL := Lib.hid (fun w (h : Ri w A vs) => slook_any n A m cap vs w h hm)
  rw [hc, hlv] at HL
  have HR := Lib.hid hr
  have HN := Lib.hid hm
  have m40 : m ≤ 40 := by omega
  have sb : 0 ≤ vs.sum ∧ vs.sum ≤ 40000000 := by
    have key : ∀ l : List Int, (∀ v ∈ l, voteOk v) → 0 ≤ l.sum ∧ l.sum ≤ l.length * 1000000 := by
      intro l
      induction l with
      | nil => intro _; simp
      | cons x l ih =>
        intro h
        have a := h x (by simp)
        have b := ih (fun v hv => h v (by simp [hv]))
        unfold voteOk at a
        simp only [List.sum_cons, List.length_cons]
        rw [show ((l.length + 1 : Nat) : Int) * 1000000 = l.length * 1000000 + 1000000 by omega]
        omega
    have := key vs c2
    omega
  obtain ⟨s1, s2⟩ := sb
  have s3 : 1 ≤ vs.sum := by omega
  have HVB := Lib.hid (fun i => voteOk_get c2 i)
  obtain ⟨S, hS⟩ : ∃ S, vs.sum = S := ⟨_, rfl⟩
  have HS := Lib.hid hS
  rw [hS] at HL s1 s2 s3
  have HST := Lib.hid (fun k (hk : k < m) => quoK_step n S vs k (by omega))
  clear hc hlv hr hm c1 c2 c5 hS s1
  go_enter Try.func21, Try.ntmps21
  go_wp2_with (first | (go_at_call 28; (with_reducible refine (HL.out _ HR.out).mono ?_); rintro e w1 ⟨rfl, rfl⟩))
  rw [ic_zero]
  clear hmk
  go_loopw [25] (fun c wr => ∃ (r : Nat), r ≤ m ∧ c = .int .i64 r ∧ Hid (Below w.heap.size w wr) ∧ Hid (Blk wr w.heap.size 3 (ic (quoK n S vs r)))) (fun c _ => m - (intOf c).toNat)
  case atStart => exact ⟨0, Nat.zero_le _, rfl, Lib.hid ((Below.refl _ _).alloc (Nat.le_refl _) _), Lib.hid (by rw [← quoK_zero, HN.out]; exact Blk.new _ _ _)⟩
  case round =>
    obtain ⟨r, hrm, rfl, hbel, hblk⟩ := hrel
    by_cases hlt : r < m
    · have hri : ((r : Nat) : Int) < (m : Int) := by omega
      obtain ⟨x, hA, hxb, cv⟩ := (HR.out.below hbel.out).at_ r (by rw [HN.out]; exact hlt)
      subst hA
      have cq : ∃ u, wr.cell? ⟨w.heap.size, r, none⟩ = some (.int .i64 u) := ⟨_, by rw [hblk.out.cell, ic_get _ _ (by rw [quoK_len, HN.out]; exact hlt)]⟩
      obtain ⟨u, cq⟩ := cq
      have hfz : wr.frozen? ⟨w.heap.size, r, none⟩ = false := hblk.out.frozen r
      obtain ⟨v1, v2⟩ := HVB.out r
      have HST' := Lib.hid (HST.out r hlt)
      have HBlk := Lib.hid (show Blk (wr.setCell ⟨w.heap.size, r, none⟩ (.int .i64 (n * vs.getD r 0 / S))) w.heap.size 3 (ic (quoK n S vs (r + 1))) from by
        rw [← HST'.out, ← ic_set]; exact hblk.out.set_ r _)
      have HBel := Lib.hid (show Below w.heap.size w (wr.setCell ⟨w.heap.size, r, none⟩ (.int .i64 (n * vs.getD r 0 / S))) from hbel.out.setCell (Nat.le_refl _) _)
      generalize vs.getD r 0 = v at *
      obtain ⟨p1, p2⟩ := prod_bd n v 1000 1000000 (by omega) (by omega) v1 v2 (by omega)
      have p3 : 0 ≤ n * v := Int.mul_nonneg c3 v1
      have p4 := Int.ediv_nonneg p3 (show 0 ≤ S by omega)
      have p5 := Int.ediv_le_self S p3
      go_wp2
      go_roundw
      case rel => exact ⟨r + 1, by omega, by go_num, HBel, HBlk⟩
      case measure => simp [intOf]; omega
    · have e : r = m := by omega
      subst e
      go_wp2
      go_returns
      obtain ⟨bs, k, e⟩ := Mor.of_below hbel.out
      refine ⟨w.heap.size, bs, k, by rw [HN.out]; rfl, e, ?_⟩
      rw [← e, HS.out]
      have hb := hblk.out
      rw [show r = vs.length from HN.out.symm, quoK_end] at hb
      exact hb.row

set_option maxHeartbeats 1600000 in
theorem quotas_no (n : Int) (A : Option Addr) (m cap : Nat) (vs : List Int) (w : World) (hr : Ri w A vs) (hm : vs.length = m) (hc : lcode n vs ≠ 0) :
    Calls Try.prog 21 #[.int .i64 n, .slice A m cap] w fun e w' => e = .returned (.tuple #[.slice none 0 0, .int .i64 (lcode n vs)]) ∧ w = w' := by
  have HL := Lib.hid (slook_any n A m cap vs w hr hm)
  clear hr hm
  generalize lcode n vs = c at *
  generalize lval n vs = l at *
  have c0 : (c == 0) = false := by simp; omega
  go_enter Try.func21, Try.ntmps21
  go_wp2_with (first | (go_at_call 28; (with_reducible refine HL.out.mono ?_); rintro e w1 ⟨rfl, rfl⟩))
  go_returns
  exact ⟨rfl, rfl⟩

end Go.Proofs.Ytmpcnipngepfgaa
