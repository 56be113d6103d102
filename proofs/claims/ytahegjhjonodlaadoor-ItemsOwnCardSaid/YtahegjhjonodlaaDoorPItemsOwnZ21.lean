/- The walk of slices.Repeat at one integer. -/
import Derived.Test.YtahegjhjonodlaaDoorPItemsOwnZ1
import Derived.Test.YtahegjhjonodlaaDoorPItemsOwnZ2
import Derived.Test.YtahegjhjonodlaaDoorPItemsOwnZ3
import Derived.Test.YtahegjhjonodlaaDoorPItemsOwnZ5
import Derived.Test.YtahegjhjonodlaaDoorPItemsOwnZ6
import Derived.Test.YtahegjhjonodlaaDoorPItemsOwnZ7
import Derived.Test.YtahegjhjonodlaaDoorPItemsOwnZ19
import Derived.Test.YtahegjhjonodlaaDoorRows
import Derived.BigQuiet
import Derived.Deep.DeepCutAuto
import Derived.Deep.OwnRows
import Derived.Deep.QuietTactic
import Derived.Deep.RegionLaw
import Derived.Deep.RegionWith
import Derived.Handy
import Derived.Laws.Bits64b
import Derived.Laws.CopyOwn
import Derived.Lib.Hide
import Derived.OpenShut
import Derived.Outline
import Derived.OwnWalk
import Derived.ProofKit
import Derived.RegionTactic
import Derived.Shelf.Abstract
import Derived.WalkKit
namespace Go.Proofs.YtahegjhjonodlaaDoor
open Go.ChangeShapes Go.WideShapes Go.ChangeAt Go.RowKit Stb
set_option linter.unusedVariables false
set_option maxRecDepth 100000

theorem mask_small (a : Nat) (ha : a < 4294967296) : bits .and .u64 (a : Int) 4294967295 = (a : Int) := by
  have h := bits_and_u64_nat a 4294967295 (by omega) (by omega)
  have e : a &&& 4294967295 = a % 4294967296 := Nat.and_two_pow_sub_one_eq_mod a 32
  rw [e, Nat.mod_eq_of_lt ha] at h
  exact h
set_option maxHeartbeats 1600000 in
theorem mul64_one (c : Nat) (hc : c ≤ 1000) (w : World) : Calls Tryd.prog 98 #[.int .u64 1, .int .u64 c] w fun e w' => e = .returned (.tuple #[.int .u64 0, .int .u64 c]) ∧ w = w' := by
  have h1 := mask_small c (by omega)
  have h2 : bits .and .u64 1 4294967295 = 1 := mask_small 1 (by omega)
  have h3 : (c : Int) / 4294967296 = 0 := by omega
  have h4 : bits .and .u64 0 4294967295 = 0 := mask_small 0 (by omega)
  have h5 : IntKind.u64.wrap (c : Int) = (c : Int) := by rw [IntKind.wrap_u64]; omega
  go_enter Tryd.func98, Tryd.ntmps98
  go_wp2
  go_returns
  exact ⟨rfl, rfl⟩
set_option maxHeartbeats 1600000 in
theorem mul_one (c : Nat) (hc : c ≤ 1000) (w : World) : Calls Tryd.prog 84 #[.int .u64 1, .int .u64 c] w fun e w' => e = .returned (.tuple #[.int .u64 0, .int .u64 c]) ∧ w = w' := by
  have h5 : IntKind.u64.wrap (c : Int) = (c : Int) := by rw [IntKind.wrap_u64]; omega
  have HM := Lib.hid (fun w => mul64_one c hc w)
  go_enter Tryd.func84, Tryd.ntmps84
  go_wp2_with (go_at_call 98; (with_reducible refine (HM.out _).mono ?_); rintro e w1 ⟨rfl, rfl⟩)
  go_returns
  exact ⟨rfl, rfl⟩

/-- k of v, then zeros -/
def rpl (n k : Nat) (v : Int) : List Int := List.replicate k v ++ List.replicate (n - k) 0
def RepPost (w : World) (n : Nat) (v : Int) (e : Ending) (w' : World) : Prop :=
  ∃ g, e = .returned (.slice (some ⟨g, 0, none⟩) n n) ∧ w.heap.size ≤ g ∧ Mor w w' ∧ Blk w' g 3 (ic (List.replicate n v))
theorem rpl_step (n k d : Nat) (v : Int) (h : k + d ≤ n) : splice ((rpl n k v).map (Value.int .i64)) k (List.replicate d (.int .i64 v)) = (rpl n (k + d) v).map (Value.int .i64) := by
  unfold splice rpl
  simp only [List.map_append, List.map_replicate, List.length_replicate]
  rw [List.take_append_of_le_length (by simp), List.take_of_length_le (by simp), List.drop_append, List.length_replicate, List.drop_of_length_le (by simp), List.nil_append, List.drop_replicate, ← List.append_assoc, List.replicate_append_replicate, show n - k - (k + d - k) = n - (k + d) by omega]

set_option maxRecDepth 100000 in
set_option maxHeartbeats 800000 in
theorem rep_any (b o cap n : Nat) (v : Int) (w : World) (hn : n ≤ 1000) (hb : b < w.heap.size) (hv : w.cell? ⟨b, o, none⟩ = some (.int .i64 v)) :
    Calls Tryd.prog 66 #[.slice (some ⟨b, o, none⟩) 1 cap, .int .i64 n] w (RepPost w n v) := by
  have HM := Lib.hid (fun w => mul_one n hn w)
  have hmk := fun w => run_make_row' (P := Tryd.prog) 22 3 (.int .i64 0) 8 Tryd.underlying22 info_int' rfl .i64 .i64 n (by omega) (by omega) w
  have h5 : IntKind.u64.wrap (n : Int) = (n : Int) := by rw [IntKind.wrap_u64]; omega
  have e0 : madeCells #[Value.int .i64 0] n = ((rpl n 0 v).map (Value.int .i64)).toArray := by rw [ic_zero]; simp [ic, rpl]
  rw [e0] at hmk
  obtain ⟨d, hd⟩ : ∃ d, d = min 1 n := ⟨_, rfl⟩
  have hdn : d ≤ n ∧ d ≤ 1 ∧ (d = 0 → n = 0) := by omega
  obtain ⟨hd1, hd2, hd3⟩ := hdn
  have HD := Lib.hid hd
  have HV := Lib.hid hv
  clear hd hv
  go_enter Tryd.func66, Tryd.ntmps66
  go_wp2_with (first
    | (go_at_call 84; (with_reducible refine (HM.out _).mono ?_); rintro e w1 ⟨rfl, rfl⟩)
    | (refine wpList_copy_splice rfl _ _ 22 22 rfl 3 rfl rfl _ _ _ _ _ _ rfl rfl w.heap.size 0 ((rpl n 0 v).map (Value.int .i64)) 3 ?_ (List.replicate d (.int .i64 v)) ?_ ?_ ?_ ?_ w.heap.size w ?_ ?_ ?_))
  case refine_1 => exact Blk.new _ _ _
  case refine_2 => rw [List.length_replicate, HD.out]
  case refine_3 =>
    intro _ j u hj
    have e : j = 0 ∧ u = .int .i64 v := by
      rw [List.getElem?_replicate] at hj
      split at hj
      · exact ⟨by omega, by injection hj with hj; exact hj.symm⟩
      · cases hj
    obtain ⟨rfl, rfl⟩ := e
    have := HV.out
    simpa [hb] using this
  case refine_4 => simp [rpl]; omega
  case refine_5 => intro u hu; rw [(List.mem_replicate.1 hu).2]; rfl
  case refine_6 => exact (Mor.refl w).alloc.below
  case refine_7 => exact Nat.le_refl _
  case refine_8 =>
    intro w1 HB hbel
    have HB1 := Lib.hid (show Blk w1 w.heap.size 3 ((rpl n d v).map (Value.int .i64)).toArray by
      have := HB.out
      have e := rpl_step n 0 d v (by omega)
      rw [Nat.zero_add] at e
      rw [e] at this; exact this)
    have HX1 := Lib.hid hbel
    obtain ⟨g, hg⟩ : ∃ g, g = w.heap.size := ⟨_, rfl⟩
    rw [← hg] at HB1
    have HG := Lib.hid hg
    rw [← hg]
    clear HB hbel hmk hg
    go_wp2
    go_loopw [8] (fun i wr => ∃ k : Nat, k ≤ n ∧ (k = 0 → n = 0) ∧ i = .int .i64 k ∧ Hid (Blk wr g 3 ((rpl n k v).map (Value.int .i64)).toArray) ∧ Hid (Below w.heap.size w wr)) (fun i _ => n - (intOf i).toNat)
    case atStart => exact ⟨d, hd1, hd3, by simp, HB1, HX1⟩
    case round =>
      obtain ⟨k, hk, hk3, rfl, HBk, HXk⟩ := hrel
      by_cases hlt : k < n
      · have hki : (k : Int) < (n : Int) := by omega
        have hk0 : (0 : Int) ≤ (k : Int) := by omega
        obtain ⟨q, hq⟩ : ∃ q : Nat, q = min k (n - k) := ⟨_, rfl⟩
        have hqn : k + q ≤ n := by omega
        have hq0 : 0 < q := by omega
        obtain ⟨r, hr⟩ : ∃ r : Nat, r = k + q := ⟨_, rfl⟩
        have hqs : (k : Int) + (q : Int) = (r : Int) := by omega
        have hrn : r ≤ n := by omega
        have hrw : IntKind.i64.wrap (r : Int) = (r : Int) := IntWalk.i64_in _ (by omega)
        have hr0 : 0 < r := by omega
        have hr1 : n - r < n - k := by omega
        have HSt := Lib.hid (show splice ((rpl n k v).map (Value.int .i64)) k (List.replicate q (.int .i64 v)) = (rpl n r v).map (Value.int .i64) by rw [hr]; exact rpl_step n k q v hqn)
        have HL := Lib.hid (show (List.replicate q (Value.int .i64 v)).length = Nat.min k (n - k) by rw [List.length_replicate, hq])
        have HC := Lib.hid (show ∀ j u, (List.replicate q (Value.int .i64 v))[j]? = some u → wr.cell? ((⟨g, 0, none⟩ : Addr).add j) = some u by
          intro j u hj
          rw [List.getElem?_replicate] at hj
          split at hj
          · injection hj with hj
            subst hj
            have := HBk.out.cell j
            rw [add_mk, Nat.zero_add, this]
            simp [rpl, List.getElem?_append, show j < k by omega]
          · cases hj)
        have HFi := Lib.hid (show k + (List.replicate q (Value.int .i64 v)).length ≤ ((rpl n k v).map (Value.int .i64)).length by simp [rpl]; omega)
        have HO := Lib.hid (show ∀ u ∈ List.replicate q (Value.int .i64 v), u.oneCell' = true by intro u hu; rw [(List.mem_replicate.1 hu).2]; rfl)
        have HGb := Lib.hid (show w.heap.size ≤ g by rw [HG.out]; exact Nat.le_refl _)
        have hne : ¬ n = k := by omega
        clear hq hr
        go_wp2
        go_region_law (refine step_copy_splice rfl (.tmp 41) (.tmp 44) 22 22 rfl 3 rfl rfl (some ⟨g, k, none⟩) (some ⟨g, 0, none⟩) (n - k) (n - k) k n (by simp [Act.eval, Act.put]) (by simp [Act.eval, Act.put]) g k ((rpl n k v).map (Value.int .i64)) 3 (by exact HBk.out) (List.replicate q (.int .i64 v)) (by exact HL.out) (by exact fun _ => ⟨rfl, ⟨g, 0, none⟩, rfl, HC.out⟩) (by exact HFi.out) (by exact HO.out) w.heap.size w (by exact bel_dN (k := 1) HXk.out) (by exact HGb.out) ?_; intro w4 hg4 hb4)
        go_simp
        go_wp2
        go_roundw
        case rel => exact ⟨r, hrn, fun h => by omega, by go_num, Lib.hid (by have := hg4.out; rw [HSt.out] at this; exact this), Lib.hid hb4⟩
        case measure => simp [intOf]; omega
      · obtain rfl : k = n := by omega
        have HBf := Lib.hid (show Blk wr g 3 (ic (List.replicate k v)) by have := HBk.out; simpa [rpl, ic] using this)
        have HGb := Lib.hid (show w.heap.size ≤ g by rw [HG.out]; exact Nat.le_refl _)
        go_wp2
        go_ret
        exact ⟨g, rfl, HGb.out, Mor.of_below HXk.out, HBf.out⟩

end Go.Proofs.YtahegjhjonodlaaDoor
