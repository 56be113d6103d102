/- The walk of shelf.take. -/
import Derived.Test.YtahegjhjonodlaaDoorPItemsOwnZ1
import Derived.Test.YtahegjhjonodlaaDoorPItemsOwnZ2
import Derived.Test.YtahegjhjonodlaaDoorPItemsOwnZ3
import Derived.Test.YtahegjhjonodlaaDoorPItemsOwnZ4
import Derived.Test.YtahegjhjonodlaaDoorPItemsOwnZ5
import Derived.Test.YtahegjhjonodlaaDoorPItemsOwnZ6
import Derived.Test.YtahegjhjonodlaaDoorPItemsOwnZ7
import Derived.Test.YtahegjhjonodlaaDoorPItemsOwnZ8
import Derived.Test.YtahegjhjonodlaaDoorRows
import Derived.ArgAppend
import Derived.BigQuiet
import Derived.BigRegion
import Derived.DataElems
import Derived.Deep.OwnRows
import Derived.Deep.QuietTactic
import Derived.Deep.SlicePairs
import Derived.Handy
import Derived.Lib.Hide
import Derived.OpenShut
import Derived.Outline
import Derived.OwnWalk
import Derived.ProofKit
import Derived.RegionTactic
import Derived.WalkKit
namespace Go.Proofs.YtahegjhjonodlaaDoor
open Go.ChangeShapes Go.WideShapes Go.ChangeAt Go.RowKit Stb
set_option linter.unusedVariables false
set_option maxRecDepth 100000

def TakeP (w : World) (bS base : Nat) (xs : List Pr) (n : Int) (e : Ending) (w' : World) : Prop :=
  Tk w w' bS base ∧ ((takeF xs n = none ∧ e = .returned (.tuple #[.int .i64 0, .bool false])) ∨ ∃ c ys v, takeF xs n = some (c, ys) ∧ e = .returned (.tuple #[.int .i64 c, .bool true]) ∧ Blk w' bS 112 #[v] ∧ Sh w' base v ys)
theorem Blk.oth2 {w : World} {b g o : Nat} {t : TypeId} {cs : Array Value} {u : Value} (h : Blk w b t cs) (hne : b ≠ g) : Blk (w.setCell ⟨g, o, none⟩ u) b t cs := (Below.heap_setCell _ _ _ _ hne).trans h
theorem prod_bd2 (a r M R : Int) (h1 : 0 ≤ a) (h2 : a ≤ M) (h3 : 0 ≤ r) (h4 : r ≤ R) : a * r ≤ M * R := by
  have h5 := Int.mul_le_mul_of_nonneg_right h2 h3
  have h6 := Int.mul_le_mul_of_nonneg_left h4 (show 0 ≤ M by omega)
  omega
theorem takeF_step {p : Pr} {r : List Pr} {n : Int} (h : 0 < n) (h2 : p.1 ≤ n) : takeF (p :: r) n = (takeF r (n - p.1)).map (fun q => (q.1 + p.2, q.2)) := by
  show (if n ≤ 0 then some (0, p :: r) else if p.1 ≤ n then (takeF r (n - p.1)).map (fun q => (q.1 + p.2, q.2)) else some (p.2 * n / p.1, (p.1 - n, p.2 - p.2 * n / p.1) :: r)) = _
  rw [if_neg (by omega), if_pos h2]
theorem takeF_part {p : Pr} {r : List Pr} {n : Int} (h : 0 < n) (h2 : ¬ p.1 ≤ n) : takeF (p :: r) n = some (p.2 * n / p.1, (p.1 - n, p.2 - p.2 * n / p.1) :: r) := by
  show (if n ≤ 0 then some (0, p :: r) else if p.1 ≤ n then (takeF r (n - p.1)).map (fun q => (q.1 + p.2, q.2)) else some (p.2 * n / p.1, (p.1 - n, p.2 - p.2 * n / p.1) :: r)) = _
  rw [if_neg (by omega), if_neg h2]

set_option maxRecDepth 100000 in
set_option maxHeartbeats 3200000 in
theorem take_any (bS base : Nat) (v : Value) (xs : List Pr) (n : Int) (w : World) (hb : Blk w bS 112 #[v]) (hs : Sh w base v xs) (hlt : bS < base) (hok : ∀ p ∈ xs, okLs p) (hl : xs.length ≤ 40) (h0 : 0 ≤ n) (h1 : n ≤ 1000000) :
    Calls Tryd.prog 69 #[.pointer (some ⟨bS, 0, none⟩), .int .i64 n] w (TakeP w bS base xs n) := by
  have HB := Lib.hid hb
  have HS := Lib.hid hs
  have HO := Lib.hid hok
  have hcs : cst xs ≤ 40000000000000 := by have := (lots_bd hok).2.2.2; omega
  have HLt := Lib.hid hlt
  clear hb hs hok hlt
  go_enter Tryd.func69, Tryd.ntmps69
  go_wp2
  go_loopw [1, 6] (fun vn vc wr => ∃ (m c : Int) (u : Value) (ys : List Pr), vn = .int .i64 m ∧ vc = .int .i64 c ∧ 0 ≤ m ∧ m ≤ 1000000 ∧ 0 ≤ c ∧ c + cst ys = cst xs ∧ Hid (∀ p ∈ ys, okLs p) ∧ Hid (Blk wr bS 112 #[u]) ∧ Hid (Sh wr base u ys) ∧ Hid (Tk w wr bS base) ∧ Hid (takeF xs n = (takeF ys m).map (fun q => (q.1 + c, q.2)))) (fun vn _ _ => (intOf vn).toNat)
  case atStart => exact ⟨n, 0, v, xs, rfl, rfl, h0, h1, Int.le_refl _, by omega, HO, HB, HS, Lib.hid (Tk.refl _ _ _), Lib.hid (by cases takeF xs n <;> simp)⟩
  case round =>
    obtain ⟨m, c, u, ys, rfl, rfl, m0, m1, c0, hcc, HOk, HBr, HSr, HT, HE⟩ := hrel
    by_cases hm : 0 < m
    · have hv : wr.cell? ⟨bS, 0, none⟩ = some u := by rw [HBr.out.cell]; rfl
      have hfz : wr.frozen? ⟨bS, 0, none⟩ = false := HBr.out.frozen _
      cases ys with
      | nil =>
        obtain ⟨A, cp, hu⟩ := HSr.out.len
        subst hu
        have HF := Lib.hid (show takeF xs n = none by rw [HE.out]; show (if 0 < m then none else some (0, [])).map _ = none; rw [if_pos hm]; rfl)
        rw [show ([] : List Pr).length = 0 from rfl] at *
        go_wp2
        go_returns
        exact ⟨HT.out, .inl ⟨HF.out, rfl⟩⟩
      | cons p r =>
        obtain ⟨g, o, cp, cur, hu, hg, hcur, hl1, hmx, c1, c2, f1, f2, ht1, ht2⟩ := HSr.out.head
        subst hu
        have hgb : g ≠ bS := by have := HLt.out; omega
        obtain ⟨l1, l2, l3, l4⟩ := HOk.out p List.mem_cons_self
        have hcr := lots_bd (xs := r) (fun q hq => HOk.out q (List.mem_cons_of_mem _ hq))
        have hcc' : c + (p.2 + cst r) = cst xs := hcc
        have HOr := Lib.hid (fun q hq => HOk.out q (List.mem_cons_of_mem p hq))
        by_cases hpm : p.1 ≤ m
        · have HE' := Lib.hid (show takeF xs n = (takeF r (m - p.1)).map (fun q => (q.1 + (c + p.2), q.2)) by
            rw [HE.out, takeF_step hm hpm]
            cases takeF r (m - p.1) with
            | none => rfl
            | some q => show some (q.1 + p.2 + c, q.2) = some (q.1 + (c + p.2), q.2); rw [show q.1 + p.2 + c = q.1 + (c + p.2) by omega])
          have HT1 := Lib.hid (fun x => HT.out.setVar (o := 0) (u := x))
          have HB1 := Lib.hid (fun x => show Blk (wr.setCell ⟨bS, 0, none⟩ x) bS 112 #[x] from HBr.out.set_ 0 x)
          have HS1 := Lib.hid (fun x => ht1 (wr.setCell ⟨bS, 0, none⟩ x) (by rw [Below.heap_setCell _ _ _ _ hgb]; exact hcur))
          clear ht1 ht2 hcur
          generalize p.1 = d at *
          generalize p.2 = k at *
          generalize r.length = q at *
          by_cases e : cp = 1
          · subst e
            rw [if_pos rfl] at HS1
            obtain rfl : q = 0 := by omega
            go_wp2
            go_quiet (fail)
            go_wp2
            refine ⟨⟨m - d, c + k, _, r, rfl, rfl, by omega, by omega, by omega, by omega, HOr, Lib.hid (HB1.out _), Lib.hid (HS1.out _), Lib.hid (HT1.out _).drewN, HE'⟩, by simp [intOf]; omega⟩
          · rw [if_neg e] at HS1
            go_wp2
            go_quiet (fail)
            go_wp2
            refine ⟨⟨m - d, c + k, _, r, rfl, rfl, by omega, by omega, by omega, by omega, HOr, Lib.hid (HB1.out _), Lib.hid (HS1.out _), Lib.hid (HT1.out _).drewN, HE'⟩, by simp [intOf]; omega⟩
        · obtain ⟨b1, b2⟩ := part_bd (c := p.1) (k := p.2) (n := m) l1 l3 m0 (by omega)
          have z1 := Int.mul_nonneg l3 m0
          have z2 : p.2 * m ≤ 1000000000000000000 := by
            have := prod_bd2 p.2 m 1000000000000 1000000 l3 l4 m0 m1
            omega
          have HE' := Lib.hid (show takeF xs n = some (c + p.2 * m / p.1, (p.1 - m, p.2 - p.2 * m / p.1) :: r) by
            rw [HE.out, takeF_part hm hpm]
            show some (p.2 * m / p.1 + c, _) = _
            rw [Int.add_comm])
          have HFin := Lib.hid (fun w' (hw : w' = ((wr.setCell ⟨g, o, none⟩ (.int .i64 (p.1 - m))).setCell ⟨g, o + 1, none⟩ (.int .i64 (p.2 - p.2 * m / p.1)))) (nq : Nat) => show TakeP w bS base xs n (.returned (.tuple #[.int .i64 (c + p.2 * m / p.1), .bool true])) (w'.drewN nq) from by
            subst hw
            have hc1 : (wr.setCell ⟨g, o, none⟩ (.int .i64 (p.1 - m))).heap[g]? = _ := heap_set_same wr g o (.int .i64 (p.1 - m)) hcur
            have hc2 := heap_set_same _ g (o + 1) (.int .i64 (p.2 - p.2 * m / p.1)) hc1
            exact ⟨((HT.out.setLot hcur hg).setLot hc1 hg).drewN, .inr ⟨_, _, _, HE'.out, rfl, ((HBr.out.oth2 hgb.symm).oth2 hgb.symm), ht2 _ _ _ hc2⟩⟩)
          clear ht1 ht2
          generalize hP : p.2 * m / p.1 = P at *
          generalize hZ : p.2 * m = Z at *
          generalize p.1 = d at *
          generalize p.2 = k at *
          go_wp2
          go_quiet (fail)
          go_wp2
          go_region
          all_goals go_wp2
          go_returns
          exact HFin.out _ rfl _
    · obtain rfl : m = 0 := by omega
      have HF := Lib.hid (show takeF xs n = some (c, ys) by rw [HE.out, takeF_zero _ _ (Int.le_refl _)]; simp)
      go_wp2
      go_returns
      exact ⟨HT.out, .inr ⟨c, ys, u, HF.out, rfl, HBr.out, HSr.out⟩⟩

end Go.Proofs.YtahegjhjonodlaaDoor
