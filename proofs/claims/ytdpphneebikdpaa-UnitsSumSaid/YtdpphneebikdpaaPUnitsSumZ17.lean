/- The walk of slices.Delete at integers (the kit's Derived/Shelf/Slices/Delete.lean turned to this program; printed by gdeli.py). -/
import Derived.Test.YtdpphneebikdpaaPUnitsSumZ1
import Derived.Test.YtdpphneebikdpaaPUnitsSumZ2
import Derived.Test.YtdpphneebikdpaaPUnitsSumZ3
import Derived.Test.YtdpphneebikdpaaPUnitsSumZ4
import Derived.Test.YtdpphneebikdpaaPUnitsSumZ15
import Derived.Test.YtdpphneebikdpaaRows
import Derived.Below
import Derived.BigQuiet
import Derived.Deep.LoopGhost
import Derived.Deep.OwnRows
import Derived.Deep.QuietTactic
import Derived.Deep.RegionLaw
import Derived.Handy
import Derived.Lib.Hide
import Derived.Lib.SliceRun
import Derived.Lib.SlicesDelete
import Derived.Lib.Walk
import Derived.OpenShut
import Derived.Outline
import Derived.OwnWalk
import Derived.ProofKit
import Derived.RegionTactic
import Derived.Shelf.RegionOpenPlain
import Derived.Sort.EncStr
import Derived.Sort.WalkB12
import Derived.WalkKit
import Derived.WalkSpells
namespace Go.Proofs.Ytdpphneebikdpaa
open Go.ChangeShapes Go.WideShapes Go.ChangeAt Go.Shelf Go.RowKit Go.Lib Go.Sort
set_option linter.unusedVariables false
set_option maxRecDepth 100000

theorem zeroI : ∀ w, (zeroValue 3).run Try.prog w = .ok (Value.int IntKind.i64 0) w := fun w => by kernel_rfl

set_option maxHeartbeats 4000000 in
set_option maxRecDepth 1000000 in
theorem delete_arr_int (blk off cap i j : Nat) (d : Array Int) (w : World) (hH : Holds encI w blk off d) (hcap : d.size ≤ cap) (hm : cap ≤ 9223372036854775807) (hij : i ≤ j) (hj : j ≤ d.size) :
    Calls Try.prog 14 #[.slice (some ⟨blk, off, none⟩) d.size cap, .int .i64 i, .int .i64 j] w fun e w' => e = .returned (.slice (some ⟨blk, off, none⟩) (d.size - (j - i)) cap) ∧ ∃ q, w' = putRow encI (Sort.ahead w q) blk off (d.toList.take i ++ d.toList.drop j ++ List.replicate (j - i) 0).toArray := by
  have mixed : Try.prog.follows Departure.mixedOrders = true := by kernel_rfl
  obtain ⟨i0, hi0, hz0, hz1, hz2⟩ := info_parts info_int'
  by_cases heq : i = j
  · subst heq
    have h0 : Calls Try.prog 14 #[.slice (some ⟨blk, off, none⟩) d.size cap, .int .i64 i, .int .i64 i] w fun e w' => e = .returned (.slice (some ⟨blk, off, none⟩) d.size cap) ∧ w' = w := by
      clear hH
      go_enter Try.func14, Try.ntmps14
      go_wp2
      all_goals (go_ret; exact ⟨rfl, rfl⟩)
    refine h0.mono ?_
    rintro e w' ⟨rfl, rfl⟩
    have e : (d.toList.take i ++ d.toList.drop i ++ List.replicate (i - i) 0).toArray = d := by simp
    refine ⟨by rw [Nat.sub_self, Nat.sub_zero], 0, ?_⟩
    rw [e]
    exact (putRow_self encI (Sort.ahead w' 0) blk off d hH).symm
  · have hlt : i < j := by omega
    -- the cells that are moved to the left
    obtain ⟨news, hnews⟩ : ∃ news, news = (d.toList.drop j).map encI := ⟨_, rfl⟩
    have hlen : news.length = d.size - j := by rw [hnews]; simp
    have hget : ∀ t, t < d.size - j → news[t]? = some (encI d[j + t]!) := by
      intro t ht
      rw [hnews, List.getElem?_map, List.getElem?_drop, Array.getElem?_toList, getElem!_pos d (j + t) (by omega), Array.getElem?_eq_getElem (by omega)]
      rfl
    obtain ⟨A, hA, hsrc⟩ : ∃ A : Addr, (if cap = j then some (⟨blk, off, none⟩ : Addr) else some ⟨blk, off + j, none⟩) = some A ∧ Hid (∀ t u, news[t]? = some u → w.drew.cell? (A.add t) = some u) := by
      by_cases h : cap = j
      · refine ⟨⟨blk, off, none⟩, by simp [h], fun t u hu => ?_⟩
        have h0 : news.length = 0 := by rw [hlen]; omega
        rw [List.length_eq_zero_iff.1 h0] at hu
        simp at hu
      · refine ⟨⟨blk, off + j, none⟩, by simp [h], fun t u hu => ?_⟩
        have ht : t < d.size - j := by
          have := (List.getElem?_eq_some_iff.1 hu).1
          rwa [hlen] at this
        rw [hget t ht] at hu
        rw [Addr.add_lit, show off + j + t = off + (j + t) by omega]
        exact (hH (j + t) (by omega)).1.trans hu
    have s1 : Hid (news.length = (d.size - j) * 1) := by rw [Nat.mul_one]; exact hlen
    have s2 : Hid (∀ u ∈ news, u.oneCell' = true) := by
      intro u hu
      rw [hnews] at hu
      obtain ⟨x, _, rfl⟩ := List.mem_map.1 hu
      rfl
    have s3 : Hid (∀ t, t < news.length → (w.drew.cell? ⟨blk, off + i * 1 + t, none⟩).isSome = true ∧ w.drew.frozen? ⟨blk, off + i * 1 + t, none⟩ = false) := by
      intro t ht
      rw [hlen] at ht
      rw [Nat.mul_one, Nat.add_assoc]
      exact ⟨by show (w.cell? _).isSome = true; rw [(hH (i + t) (by omega)).1]; rfl, (hH (i + t) (by omega)).2⟩
    -- the world behind the append, behind a name
    obtain ⟨W1, hW1⟩ : ∃ W1, W1 = w.drew.setCells blk (off + i * 1) news := ⟨_, rfl⟩
    have hW1' : W1 = putRow encI (Sort.ahead w 1) blk off (lay d i (d.toList.drop j)) := by
      rw [hW1, hnews, Nat.mul_one, ← putRow_setCells encI (Sort.ahead w 1) blk off _ d i (by simp; omega), putRow_self encI (Sort.ahead w 1) blk off d (holds_ahead encI w 1 blk off d hH)]
      rfl
    have hH1 : Holds encI W1 blk off (lay d i (d.toList.drop j)) := by rw [hW1']; exact holds_putRow encI _ blk off d _ (holds_ahead encI w 1 blk off d hH) (lay_size _ _ _)
    have hcl : ∀ ty, (Builtin.clear_ #[22] ty #[.slice (some ⟨blk, off + (i + (d.size - j)), none⟩) (d.size - (i + (d.size - j))) (cap - (i + (d.size - j)))]).run Try.prog W1 = .ok (.tuple #[]) (W1.setCells blk (off + (i + (d.size - j))) (List.replicate (d.size - (i + (d.size - j))) (encI 0))) :=
      fun ty => Lib.run_clear_slice W1 _ _ ty _ Try.underlying22 zeroI rfl rfl blk (off + (i + (d.size - j))) _ _ (by omega) (fun t ht => by rw [show off + (i + (d.size - j)) + t = off + (i + (d.size - j) + t) by omega, (hH1 _ (by rw [lay_size]; omega)).1]; rfl) (fun t ht => by rw [show off + (i + (d.size - j)) + t = off + (i + (d.size - j) + t) by omega]; exact (hH1 _ (by rw [lay_size]; omega)).2)
    have X : Aside (W1 = putRow encI (Sort.ahead w 1) blk off (lay d i (d.toList.drop j))) := hW1'
    have hW : Hid (W1 = w.drew.setCells blk (off + i * 1) news) := hW1
    have hic : i ≤ cap := by omega
    have hjc : j ≤ cap := by omega
    clear hW1 hW1' hH1 hH hget hnews hlen
    go_enter Try.func14, Try.ntmps14
    go_wp2_with fail
    go_region_law_o (refine step_append_room rfl (.tmp 22) (.tmp 25) 22 rfl 3 i0 1 Try.underlying22 hi0 hz1 blk off i cap (by simp [Act.eval, Act.put]) A (d.size - j) (cap - j) news (by simp [Act.eval, Act.put]) s1.out hsrc.out s2.out (by omega) s3.out ?_; rw [← hW.out])
    go_wp2
    go_ret
    refine ⟨by rw [show d.size - (j - i) = i + (d.size - j) by omega]; rfl, 1, ?_⟩
    rw [← delete_arr d i j 0 hij hj, ← putRow_setCells encI _ blk off _ _ (i + (d.size - j)) (by rw [lay_size]; simp; omega), ← X.out, List.map_replicate, show d.size - (i + (d.size - j)) = j - i by omega]

theorem putRow_far (w : World) (blk off : Nat) (d : Array Int) (k : Nat) (h : k ≠ blk) : (putRow (Value.int .i64) w blk off d).heap[k]? = w.heap[k]? := by
  unfold putRow mapBlock
  simp only
  rw [Array.getElem?_modify, if_neg (fun e => h e.symm)]
theorem putRow_size (w : World) (blk off : Nat) (d : Array Int) : (putRow (Value.int .i64) w blk off d).heap.size = w.heap.size := by
  unfold putRow mapBlock
  simp
/-- one element of a row whose block is known is taken out -/
theorem delete_one (g n cap i : Nat) (xs : List Int) (cur : Array Value) (w : World) (hb : Blk w g 3 cur) (hc : CurR cur xs) (hn : xs.length = n) (hcap : n ≤ cap) (hm : cap ≤ 9223372036854775807) (hi : i < n) :
    Calls Try.prog 14 #[.slice (some ⟨g, 0, none⟩) n cap, .int .i64 i, .int .i64 ((i : Int) + 1)] w fun e w' => e = .returned (.slice (some ⟨g, 0, none⟩) (n - 1) cap) ∧ Ri w' (some ⟨g, 0, none⟩) (xs.take i ++ xs.drop (i + 1)) ∧ Below g w w' ∧ ∀ k, k ≠ g → w'.heap[k]? = w.heap[k]? := by
  have hsz : xs.toArray.size = n := by simpa using hn
  have hget : ∀ j, j < n → xs.toArray[j]! = xs.getD j 0 := fun j hj => by
    rw [getElem!_pos xs.toArray j (by omega), List.getD_eq_getElem?_getD]
    simp [show j < xs.length by omega]
  have hH : Holds (Value.int .i64) w g 0 xs.toArray := fun j hj => by
    rw [hsz] at hj
    rw [Nat.zero_add, hb.cell, hb.frozen, hc j (by omega), hget j hj]
    exact ⟨rfl, rfl⟩
  have h := delete_arr_int g 0 cap i (i + 1) xs.toArray w hH (by omega) hm (by omega) (by omega)
  rw [hsz, show i + 1 - i = 1 by omega, show ((i + 1 : Nat) : Int) = (i : Int) + 1 by omega] at h
  refine h.mono ?_
  rintro e w' ⟨rfl, q, rfl⟩
  have hg : g < w.heap.size := hb.lt
  have hs2 : (xs.take i ++ xs.drop (i + 1) ++ List.replicate 1 0).toArray.size = xs.toArray.size := by simp; omega
  have hP := holds_putRow (Value.int .i64) (Sort.ahead w q) g 0 xs.toArray _ (holds_ahead _ _ _ _ _ _ hH) hs2
  refine ⟨rfl, .inr ⟨_, rfl, by rw [putRow_size]; exact hg, fun j hj => ?_⟩, ⟨rfl, rfl, rfl, by rw [putRow_size]; exact Nat.le_refl _, fun k hk => putRow_far _ _ _ _ _ (by omega)⟩, fun k hk => putRow_far _ _ _ _ _ hk⟩
  have hj2 : j < (xs.take i ++ xs.drop (i + 1) ++ List.replicate 1 0).length := by rw [List.length_append]; omega
  have h1 := (hP j (by simpa using hj2)).1
  rw [add_mk, h1, getElem!_pos _ j (by simpa using hj2)]
  congr 2
  rw [List.getElem_toArray, List.getElem_append_left hj, List.getD_eq_getElem?_getD, List.getElem?_eq_getElem hj]
  rfl

end Go.Proofs.Ytdpphneebikdpaa
