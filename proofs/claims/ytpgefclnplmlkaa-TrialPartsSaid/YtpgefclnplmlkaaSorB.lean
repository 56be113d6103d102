/- The walk of slices.Sort at a new slice of three integers. -/
import Derived.Test.YtpgefclnplmlkaaSorA
namespace Go.Proofs.Ytpgefclnplmlkaa
open Go.ChangeShapes Go.WideShapes Go.ChangeAt Go.RowKit
set_option linter.unusedVariables false

set_option maxRecDepth 100000 in
set_option maxHeartbeats 400000 in
theorem len3 (w : World) : Calls Try.prog 59 #[.int .u64 3] w fun e w' => e = .returned (.int .i64 2) ∧ w = w' := by
  go_enter Try.func59, Try.ntmps59
  go_wp2
  go_ret
  exact ⟨by kernel_rfl, rfl⟩
/-- a row laid over a whole new block -/
theorem putRow_new (W : World) (T : TypeId) (d : Array Int) (c : Array Value) (n : Nat) (hc : c.size = d.size) :
    Sort.putRow (Value.int .i64) (Sort.ahead (W.alloc (.cells c T)) n) W.heap.size 0 d = (W.alloc (.cells (d.map (Value.int .i64)) T)).drewN n := by
  rw [Sort.putRow_ahead]
  show Sort.ahead _ n = Sort.ahead _ n
  congr 1
  unfold Sort.putRow Sort.mapBlock World.alloc
  congr 1
  apply Array.ext_getElem?
  intro i
  simp only [Array.getElem?_modify, Array.getElem?_push]
  by_cases hi : W.heap.size = i
  · subst hi
    rw [if_pos rfl, if_pos rfl, if_pos rfl]
    simp only [Option.map_some, Sort.onCells]
    congr 2
    apply Array.ext_getElem?
    intro j
    simp only [Sort.putCells, Array.getElem?_mapIdx, Array.getElem?_map]
    by_cases hj : j < d.size
    · rw [Array.getElem?_eq_getElem (by omega), Array.getElem?_eq_getElem hj]
      simp only [Option.map_some]
      rw [if_pos ⟨by omega, by omega⟩, Nat.sub_zero, getElem!_pos d j hj]
    · rw [Array.getElem?_eq_none (by omega), Array.getElem?_eq_none (by omega)]; rfl
  · rw [if_neg hi, if_neg (fun e => hi e.symm), if_neg (fun e => hi e.symm)]
theorem holds_new (W : World) (T : TypeId) (d : Array Int) : Sort.Holds (Value.int .i64) (W.alloc (.cells (d.map (Value.int .i64)) T)) W.heap.size 0 d := by
  intro j hj
  have hb := Bk.new W T (d.map (Value.int .i64))
  refine ⟨?_, hb.frozen _⟩
  rw [Nat.zero_add, hb.cell, Array.getElem?_map, Array.getElem?_eq_getElem hj, getElem!_pos d j hj]; rfl

def Sort3Post (x y z : Int) (W : World) (w' : World) : Prop :=
  ∃ a b c k, a ≤ b ∧ b ≤ c ∧ (∀ P : Int → Prop, P x → P y → P z → P a ∧ P b ∧ P c) ∧ w' = (W.alloc (.cells #[.int .i64 a, .int .i64 b, .int .i64 c] 3)).drewN k
theorem sort3_plain (x y z : Int) (W : World) (n : Nat) : Sort3Post x y z W (Sort.putRow (Value.int .i64) (Sort.ahead (W.alloc (.cells #[.int .i64 x, .int .i64 y, .int .i64 z] 3)) n) W.heap.size 0 (Sort.insertionSort Sort.ltInt #[x, y, z] 0 3)) := by
  obtain ⟨hp, hs⟩ := Sort.insertionSort_holds Sort.swo_ltInt #[x, y, z] 0 3 (by omega) (by simp)
  generalize Sort.insertionSort Sort.ltInt #[x, y, z] 0 3 = d at *
  obtain ⟨h1, -, h3⟩ := hp
  have hsz : d.size = 3 := h1
  rw [putRow_new _ _ _ _ _ (by rw [hsz]; rfl)]
  obtain ⟨l⟩ := d
  match l, hsz with
  | [a, b, c], _ =>
    refine ⟨a, b, c, n, ?_, ?_, ?_, by simp⟩
    · have := hs 0 1 (by omega) (by omega) (by omega)
      simpa [Sort.ltInt] using this
    · have := hs 1 2 (by omega) (by omega) (by omega)
      simpa [Sort.ltInt] using this
    · intro P px py pz
      have h3' : [a, b, c].Perm [x, y, z] := by simpa using h3
      have hm : ∀ v ∈ [a, b, c], P v := fun v hv => by
        have := h3'.mem_iff.1 hv
        simp at this
        rcases this with rfl | rfl | rfl <;> assumption
      exact ⟨hm a (by simp), hm b (by simp), hm c (by simp)⟩

set_option maxHeartbeats 1600000 in
theorem pdq3_any (x y z : Int) (W : World) :
    Calls Try.prog 58 #[.slice (some ⟨W.heap.size, 0, none⟩) 3 3, .int .i64 0, .int .i64 3, .int .i64 2] (W.alloc (.cells #[.int .i64 x, .int .i64 y, .int .i64 z] 3)) fun e w' => e = .returned (.tuple #[]) ∧ Sort3Post x y z W w' := by
  have HI := Lib.hid (show Calls Try.prog 72 #[.slice (some ⟨W.heap.size, 0, none⟩) 3 3, .int .i64 0, .int .i64 3] (W.alloc (.cells #[.int .i64 x, .int .i64 y, .int .i64 z] 3)) fun e w' => e = .returned (.tuple #[]) ∧ ∃ n, w' = Sort.putRow (Value.int .i64) (Sort.ahead (W.alloc (.cells #[.int .i64 x, .int .i64 y, .int .i64 z] 3)) n) W.heap.size 0 (Sort.insertionSort Sort.ltInt #[x, y, z] 0 3) from insertionSort_int W.heap.size 0 3 0 3 #[x, y, z] (W.alloc (.cells #[.int .i64 x, .int .i64 y, .int .i64 z] 3)) (by simpa using holds_new W 3 #[x, y, z]) (by omega) (by simp) (by simp))
  have HP := Lib.hid (sort3_plain x y z W)
  go_enter Try.func58, Try.ntmps58
  go_wp2
  refine wp_loop_rounds 1 ?_
  rw [rounds_succ]
  go_wp2_with ((go_at_call 72; (with_reducible refine HI.out.mono ?_); rintro e w1 ⟨rfl, n, rfl⟩))
  go_returns
  exact ⟨rfl, HP.out n⟩

set_option maxHeartbeats 1600000 in
theorem sort3_any (x y z : Int) (W : World) :
    Calls Try.prog 37 #[.slice (some ⟨W.heap.size, 0, none⟩) 3 3] (W.alloc (.cells #[.int .i64 x, .int .i64 y, .int .i64 z] 3)) fun e w' => e = .returned (.tuple #[]) ∧ Sort3Post x y z W w' := by
  have HI := Lib.hid (pdq3_any x y z W)
  go_enter Try.func37, Try.ntmps37
  go_wp2_with (first | (go_at_call 59; (with_reducible refine (len3 _).mono ?_); rintro e w1 ⟨rfl, rfl⟩) | (go_at_call 58; (with_reducible refine HI.out.mono ?_); rintro e w1 ⟨rfl, hp⟩))
  first | go_returns | go_end0
  exact ⟨rfl, hp⟩

end Go.Proofs.Ytpgefclnplmlkaa
