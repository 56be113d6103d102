/- Slices of integers, wherever they lie: 'Ri w A xs': the slice at A reads xs. -/
import Derived.Test.YtdpphneebikdpaaPTopSeatsZ1
import Derived.Test.YtdpphneebikdpaaPTopSeatsZ9
import Derived.Test.YtdpphneebikdpaaPTopSeatsZ20
import Derived.Test.YtdpphneebikdpaaPTopSeatsZ21
import Derived.Test.YtdpphneebikdpaaPTopSeatsZ23
import Derived.Test.YtdpphneebikdpaaRows
import Derived.BigQuiet
import Derived.Deep.OwnRows
import Derived.Deep.QuietTactic
import Derived.Handy
import Derived.Lib.Hide
import Derived.OpenShut
import Derived.Outline
import Derived.OwnWalk
import Derived.ProofKit
import Derived.RegionTactic
import Derived.WalkKit
namespace Go.Proofs.Ytdpphneebikdpaa
open Go.ChangeShapes Go.WideShapes Go.ChangeAt Go.RowKit
set_option linter.unusedVariables false
set_option maxRecDepth 100000

theorem Row.mor {w w' : World} {b o : Nat} {xs : List Int} (h : Row w b o xs) (hm : Mor w w') : Row w' b o xs := by
  obtain ⟨bs, k, rfl⟩ := hm; exact h.more
theorem Row.below {w w' : World} {b o : Nat} {xs : List Int} (h : Row w b o xs) (hm : Below w.heap.size w w') : Row w' b o xs := h.mor (Mor.of_below hm)
theorem getD_mem (xs : List Int) (i : Nat) (hi : i < xs.length) : xs.getD i 0 ∈ xs := by
  rw [List.getD_eq_getElem?_getD, List.getElem?_eq_getElem hi]; exact List.getElem_mem hi

/-- the slice of integers at A reads xs -/
def Ri (w : World) (A : Option Addr) (xs : List Int) : Prop :=
  xs = [] ∨ ∃ x, A = some x ∧ x.block < w.heap.size ∧ ∀ i, i < xs.length → w.cell? (x.add i) = some (.int .i64 (xs.getD i 0))

theorem Ri.nil (w : World) (A : Option Addr) : Ri w A [] := .inl rfl
theorem add_block (x : Addr) (i : Nat) : (x.add i).block = x.block := by unfold Addr.add; split <;> rfl
theorem add_mk (b o i : Nat) : (⟨b, o, none⟩ : Addr).add i = ⟨b, o + i, none⟩ := by
  unfold Addr.add; split
  · subst_vars; rfl
  · rfl
theorem Ri.mor {w w' : World} {A : Option Addr} {xs : List Int} (h : Ri w A xs) (hm : Mor w w') : Ri w' A xs := by
  rcases h with h | ⟨x, e, hb, hc⟩
  · exact .inl h
  · have hB := hm.below
    exact .inr ⟨x, e, by have := hB.size; omega, fun i hi => (hB.cell (p := x.add i) (by rw [add_block]; exact hb)).trans (hc i hi)⟩
theorem Ri.below {w w' : World} {A : Option Addr} {xs : List Int} (h : Ri w A xs) (hB : Below w.heap.size w w') : Ri w' A xs := by
  rcases h with h | ⟨x, e, hb, hc⟩
  · exact .inl h
  · exact .inr ⟨x, e, by have := hB.size; omega, fun i hi => (hB.cell (p := x.add i) (by rw [add_block]; exact hb)).trans (hc i hi)⟩
theorem Ri.drewN {w : World} {A : Option Addr} {xs : List Int} {k : Nat} (h : Ri w A xs) : Ri (w.drewN k) A xs := h
theorem Ri.alloc {w : World} {A : Option Addr} {xs : List Int} {o : Obj} (h : Ri w A xs) : Ri (w.alloc o) A xs := h.mor ((Mor.refl _).alloc)
theorem Ri.up {w : World} {A : Option Addr} {xs : List Int} {cs : List Obj} {n : Nat} (h : Ri w A xs) : Ri (more w cs n) A xs := h.mor ((Mor.refl _).more)
theorem Ri.to {w : World} {A : Option Addr} {xs : List Int} {bs cs : List Obj} {k n : Nat} (h : Ri (more w bs k) A xs) (hp : bs <+: cs) : Ri (more w cs n) A xs := by
  obtain ⟨ds, rfl⟩ := hp
  rw [← more_more w bs ds k n]; exact h.up
theorem Ri.take {w : World} {A : Option Addr} {xs : List Int} {k : Nat} (h : Ri w A xs) : Ri w A (xs.take k) := by
  rcases h with h | ⟨x, e, hb, hc⟩
  · subst h; rw [List.take_nil]; exact .inl rfl
  · refine .inr ⟨x, e, hb, fun i hi => ?_⟩
    rw [List.length_take] at hi
    rw [hc i (by omega), List.getD_eq_getElem?_getD, List.getD_eq_getElem?_getD, List.getElem?_take, if_pos (by omega)]
theorem Ri.at_ {w : World} {A : Option Addr} {xs : List Int} (h : Ri w A xs) (i : Nat) (hi : i < xs.length) : ∃ x, A = some x ∧ x.block < w.heap.size ∧ w.cell? (x.add i) = some (.int .i64 (xs.getD i 0)) := by
  rcases h with h | ⟨x, e, hb, hc⟩
  · subst h; simp at hi
  · exact ⟨x, e, hb, hc i hi⟩
/-- an argument's slice -/
theorem Ri.of_isRow {w : World} {A : Option Addr} {len cap : Nat} {zs : List Int} (h : IsRow .i64 w A len cap zs) :
    Ri w A (zs.take len) ∧ (zs.take len).length = len ∧ len ≤ cap ∧ cap ≤ maxLen ∧ (∀ n ∈ zs.take len, (Lit.int .i64 n).wf = true) ∧ (A = none → len = 0) := by
  rcases h with ⟨rfl, rfl, rfl, rfl⟩ | ⟨x, rfl, h1, h2, h3, h4, h5⟩
  · exact ⟨.inl rfl, rfl, Nat.le_refl _, by unfold maxLen; omega, fun n hn => by simp at hn, fun _ => rfl⟩
  · refine ⟨?_, by rw [List.length_take]; omega, h1, h2, fun n hn => h5 n (List.mem_of_mem_take hn), fun h => by cases h⟩
    by_cases h0 : len = 0
    · subst h0; exact .inl rfl
    · have hb : x.block < w.heap.size := by
        have := World.block_lt_of_cell? _ _ (h4 0 (by omega))
        rw [add_block] at this; exact this
      refine .inr ⟨x, rfl, hb, fun i hi => ?_⟩
      rw [List.length_take] at hi
      rw [h4 i (by omega), List.getD_eq_getElem?_getD, List.getD_eq_getElem?_getD, List.getElem?_take, if_pos (by omega)]

/-- the cells of the integers xs -/
def ic (xs : List Int) : Array Value := (xs.map (Value.int .i64)).toArray
theorem ic_get (xs : List Int) (i : Nat) (h : i < xs.length) : (ic xs)[i]? = some (.int .i64 (xs.getD i 0)) := by
  simp [ic, List.getD_eq_getElem?_getD, h]
theorem ic_set (xs : List Int) (i : Nat) (v : Int) : (ic xs).setIfInBounds i (.int .i64 v) = ic (xs.set i v) := by
  simp [ic, List.map_set]
theorem ic_zero (m : Nat) : madeCells #[Value.int .i64 0] m = ic (List.replicate m 0) := by
  apply Array.ext_getElem?
  intro i
  by_cases h : i < m
  · rw [ic_get _ _ (by simpa using h)]
    simp [madeCells, h, Nat.mod_one, List.getD_eq_getElem?_getD]
  · rw [Array.getElem?_eq_none (by rw [size_madeCells]; omega), Array.getElem?_eq_none (by simp [ic]; omega)]

/-- block g of the heap is just the cells cs -/
def Blk (w : World) (g : Nat) (t : TypeId) (cs : Array Value) : Prop := w.heap[g]? = some (.cells cs t (0, 0))
section
variable {w w' : World} {g : Nat} {t : TypeId} {cs : Array Value}
theorem Blk.lt (h : Blk w g t cs) : g < w.heap.size := by
  rcases Nat.lt_or_ge g w.heap.size with hlt | hge
  · exact hlt
  · unfold Blk at h; rw [Array.getElem?_eq_none hge] at h; cases h
theorem Blk.cell (h : Blk w g t cs) (i : Nat) : w.cell? ⟨g, i, none⟩ = cs[i]? := by
  unfold Blk at h
  simp [World.cell?, h]
theorem Blk.frozen (h : Blk w g t cs) (i : Nat) : w.frozen? ⟨g, i, none⟩ = false := by
  unfold Blk at h
  simp [World.frozen?, h]
theorem Blk.new (w : World) (t : TypeId) (cs : Array Value) : Blk (w.alloc (.cells cs t)) w.heap.size t cs := heap_alloc_new w _
theorem Blk.drewN (h : Blk w g t cs) (n : Nat) : Blk (w.drewN n) g t cs := h
theorem Blk.drew (h : Blk w g t cs) : Blk w.drew g t cs := h
theorem Blk.alloc (h : Blk w g t cs) (o : Obj) : Blk (w.alloc o) g t cs := (Below.heap_alloc w o g h.lt).trans h
theorem Blk.set_ (h : Blk w g t cs) (i : Nat) (u : Value) : Blk (w.setCell ⟨g, i, none⟩ u) g t (cs.setIfInBounds i u) := by
  unfold Blk at h ⊢
  simp [World.setCell, Array.getElem?_modify, h]
theorem Blk.below {B : Nat} (h : Blk w g t cs) (hb : Below B w w') (hg : g < B) : Blk w' g t cs := (hb.block g hg).trans h
end
theorem Row.far {w w' : World} {b o : Nat} {xs : List Int} (h : Row w b o xs) (hs : b < w'.heap.size) (hf : ∀ q : Addr, q.block = b → w'.cell? q = w.cell? q) : Row w' b o xs :=
  ⟨hs, fun i hi => (hf _ rfl).trans (h.2 i hi)⟩
theorem Blk.row {w : World} {g : Nat} {t : TypeId} {xs : List Int} (h : Blk w g t (ic xs)) : Row w g 0 xs :=
  ⟨h.lt, fun i hi => by rw [Nat.zero_add, h.cell, ic_get _ _ hi]⟩

theorem info_int' : (Try.prog.info? 3).map (fun i => (i.zero, i.size, i.bytes)) = some (some (.int .i64 0), 1, 8) := by kernel_rfl
/-- the cells cur begin with the integers xs -/
def CurR (cur : Array Value) (xs : List Int) : Prop := ∀ i, i < xs.length → cur[i]? = some (.int .i64 (xs.getD i 0))
theorem CurR.set {cur : Array Value} {xs : List Int} (h : CurR cur xs) (i : Nat) (v : Int) : CurR (cur.setIfInBounds i (.int .i64 v)) (xs.set i v) := by
  intro j hj
  rw [List.length_set] at hj
  have hs : j < cur.size := by
    rcases Nat.lt_or_ge j cur.size with a | a
    · exact a
    · have := h j hj; rw [Array.getElem?_eq_none a] at this; cases this
  rw [Array.getElem?_setIfInBounds, List.getD_eq_getElem?_getD, List.getElem?_set]
  by_cases e : i = j
  · subst e; rw [if_pos rfl, if_pos hs, if_pos rfl, if_pos hj]; rfl
  · rw [if_neg e, if_neg e, h j hj, List.getD_eq_getElem?_getD]
theorem CurR.ri {w : World} {g : Nat} {T : TypeId} {cur : Array Value} {xs : List Int} (h : CurR cur xs) (hb : Blk w g T cur) : Ri w (some ⟨g, 0, none⟩) xs :=
  .inr ⟨_, rfl, hb.lt, fun i hi => by rw [add_mk, Nat.zero_add, hb.cell]; exact h i hi⟩
/-- an owned row's block -/
theorem own_blkR {w : World} {base n : Nat} {T : TypeId} {v : Value} {xs : List Int} (h : w.ownsRow base T 1 v n (xs.map (Value.int .i64))) (hn : 1 ≤ n) :
    ∃ g cap cur, v = .slice (some ⟨g, 0, none⟩) n cap ∧ base ≤ g ∧ n ≤ cap ∧ Blk w g T cur ∧ CurR cur xs := by
  obtain ⟨hl, h | ⟨g, cap, cur, rfl, hg, hb, h1, h2, h3, h4⟩⟩ := h
  · omega
  · refine ⟨g, cap, cur, rfl, hg, h1, hb, fun i hi => ?_⟩
    have := congrArg (fun l : List Value => l[i]?) h4
    have hlen : xs.length = n := by simpa using hl
    simp only [List.getElem?_take, List.getElem?_map] at this
    rw [if_pos (by omega)] at this
    rw [← Array.getElem?_toList, this, List.getD_eq_getElem?_getD, List.getElem?_eq_getElem hi]
    rfl

theorem CurR.row {w : World} {g : Nat} {T : TypeId} {cur : Array Value} {xs : List Int} (h : CurR cur xs) (hb : Blk w g T cur) : Row w g 0 xs :=
  ⟨hb.lt, fun i hi => by rw [Nat.zero_add, hb.cell]; exact h i hi⟩
theorem own_ri {w : World} {base n c : Nat} {T : TypeId} {A : Option Addr} {xs : List Int} (h : w.ownsRow base T 1 (.slice A n c) n (xs.map (Value.int .i64))) : Ri w A xs := by
  have hl := h.1
  rcases Nat.eq_zero_or_pos n with e | e
  · subst e
    exact .inl (List.eq_nil_of_length_eq_zero (by simpa using hl))
  · obtain ⟨g, cap, cur, hv, _, _, hb, hc⟩ := own_blkR h e
    injection hv with hA
    subst hA
    exact hc.ri hb

end Go.Proofs.Ytdpphneebikdpaa

/- The walks of seats.divisor and seats.look. -/
namespace Go.Proofs.Ytdpphneebikdpaa
open Go.ChangeShapes Go.WideShapes Go.ChangeAt Go.RowKit
set_option linter.unusedVariables false
set_option maxRecDepth 100000

set_option maxHeartbeats 400000 in
theorem divisor_any (way s : Int) (w : World) (h1 : 0 ≤ s) (h2 : s ≤ 2000) :
    Calls Try.prog 62 #[.int .i64 way, .int .i64 s] w fun e w' => e = .returned (.int .i64 (dv way s)) ∧ w = w' := by
  by_cases w0 : way = 0
  · subst w0
    rw [dv_0]
    go_enter Try.func62, Try.ntmps62
    go_wp2
    go_ret
    exact ⟨rfl, rfl⟩
  · by_cases w1 : way = 1
    · subst w1
      rw [dv_1]
      clear w0
      go_enter Try.func62, Try.ntmps62
      go_wp2
      go_ret
      exact ⟨rfl, rfl⟩
    · have e : dv way s = s := by unfold dv; rw [if_neg w0, if_neg w1]
      rw [e]
      have n0 : (way == 0) = false := by simp; omega
      have n1 : (way == 1) = false := by simp; omega
      clear w0 w1 e
      go_enter Try.func62, Try.ntmps62
      go_wp2
      go_ret
      exact ⟨rfl, rfl⟩

/-- may votes be? -/
def voteOk (v : Int) : Prop := 0 ≤ v ∧ v ≤ 1000000
instance (v : Int) : Decidable (voteOk v) := by unfold voteOk; infer_instance
/-- what seats.look says -/
def lcode (n : Int) (vs : List Int) : Int :=
  if 40 < vs.length then 2 else if ∀ v ∈ vs, voteOk v then (if n < 0 ∨ 1000 < n then 1 else if vs.sum = 0 then 6 else 0) else 1
def lval (n : Int) (vs : List Int) : Int := if lcode n vs = 0 then vs.sum else 0
theorem lcode_zero {n : Int} {vs : List Int} (h : lcode n vs = 0) : vs.length ≤ 40 ∧ (∀ v ∈ vs, voteOk v) ∧ 0 ≤ n ∧ n ≤ 1000 ∧ vs.sum ≠ 0 := by
  unfold lcode at h
  split at h
  · omega
  · split at h
    · rename_i h1 h2
      split at h
      · omega
      · split at h
        · omega
        · exact ⟨by omega, h2, by omega, by omega, by assumption⟩
    · omega
theorem voteOk_get {vs : List Int} (h : ∀ v ∈ vs, voteOk v) (i : Nat) : 0 ≤ vs.getD i 0 ∧ vs.getD i 0 ≤ 1000000 := by
  rw [List.getD_eq_getElem?_getD]
  by_cases hk : i < vs.length
  · rw [List.getElem?_eq_getElem hk]; exact h _ (List.getElem_mem hk)
  · rw [List.getElem?_eq_none (by omega)]; simp

set_option maxRecDepth 100000 in
set_option maxHeartbeats 1600000 in
theorem slook_any (n : Int) (A : Option Addr) (m cap : Nat) (vs : List Int) (w : World) (hr : Ri w A vs) (hm : vs.length = m) :
    Calls Try.prog 61 #[.int .i64 n, .slice A m cap] w fun e w' => e = .returned (.tuple #[.int .i64 (lval n vs), .int .i64 (lcode n vs)]) ∧ w = w' := by
  by_cases hl : 40 < m
  · have e : lcode n vs = 2 := by unfold lcode; rw [if_pos (by omega)]
    have e2 : lval n vs = 0 := by unfold lval; rw [if_neg (by omega)]
    rw [e2, e]
    clear hr hm e e2
    go_enter Try.func61, Try.ntmps61
    go_wp2
    go_returns
    exact ⟨rfl, rfl⟩
  · have h40 : m ≤ 40 := by omega
    have HR := Lib.hid (fun i (hi : i < m) => hr.at_ i (by omega))
    have HN := Lib.hid hm
    clear hr hl hm
    obtain ⟨cd, hcd⟩ : ∃ c, lcode n vs = c := ⟨_, rfl⟩
    obtain ⟨lv, hlv⟩ : ∃ c, lval n vs = c := ⟨_, rfl⟩
    rw [hcd, hlv]
    have HC := Lib.hid hcd
    have HV := Lib.hid hlv
    clear hcd hlv
    go_enter Try.func61, Try.ntmps61
    go_wp2
    go_loop [6, 14] (fun s i => ∃ k : Nat, k ≤ m ∧ i = .int .i64 k ∧ s = .int .i64 (vs.take k).sum ∧ Hid (∀ j, j < k → voteOk (vs.getD j 0)) ∧ 0 ≤ (vs.take k).sum ∧ (vs.take k).sum ≤ k * 1000000) (fun _ i => m - (intOf i).toNat)
    case atStart => exact ⟨0, Nat.zero_le _, rfl, by simp, Lib.hid (fun j hj => absurd hj (Nat.not_lt_zero _)), by simp, by simp⟩
    case round =>
      obtain ⟨k, hk, rfl, rfl, hok, s1, s2⟩ := hrel
      by_cases hlt : k < m
      · obtain ⟨x, hA, hxb, c⟩ := HR.out k hlt
        subst hA
        have HS := Lib.hid (sum_take_succ vs k (by rw [HN.out]; exact hlt))
        have HY : Hid (∃ y, vs.getD k 0 = y) := Lib.hid ⟨_, rfl⟩
        obtain ⟨y, hy⟩ := HY.out
        have HYK := Lib.hid hy
        rw [hy] at c
        clear hy HY
        by_cases hv : voteOk y
        · obtain ⟨v1, v2⟩ := hv
          have HT := Lib.hid (show (vs.take (k + 1)).sum = (vs.take k).sum + y by have := HS.out; rw [HYK.out] at this; exact this)
          obtain ⟨t, ht⟩ : ∃ t, (vs.take k).sum = t := ⟨_, rfl⟩
          have HTT := Lib.hid ht
          rw [ht] at s1 s2
          rw [ht]
          clear ht
          go_wp2
          go_round
          case rel =>
            refine ⟨k + 1, by omega, by go_num, by rw [HT.out, HTT.out], Lib.hid (fun j hj => ?_), by rw [HT.out, HTT.out]; omega, by rw [HT.out, HTT.out]; omega⟩
            by_cases e : j = k
            · subst e; rw [HYK.out]; exact ⟨v1, v2⟩
            · exact hok.out j (by omega)
          case measure => simp [intOf]; omega
        · have e : cd = 1 := by
            rw [← HC.out]; unfold lcode
            rw [if_neg (by have := HN.out; omega), if_neg]
            intro h
            have := h (vs.getD k 0) (getD_mem vs k (by have := HN.out; omega))
            rw [HYK.out] at this
            exact hv this
          have e2 : lv = 0 := by rw [← HV.out]; unfold lval; rw [if_neg (by rw [HC.out]; omega)]
          subst e e2
          have hv' : y < 0 ∨ (0 ≤ y ∧ 1000000 < y) := by unfold voteOk at hv; omega
          clear hv
          rcases hv' with h | ⟨h, h'⟩
          all_goals
            go_wp2
            go_returns
            exact ⟨rfl, rfl⟩
      · have e : k = m := by omega
        subst e
        have hall : ∀ v ∈ vs, voteOk v := by
          intro v hv
          obtain ⟨i, hi, e⟩ := List.getElem_of_mem hv
          have := hok.out i (by have := HN.out; omega)
          rw [List.getD_eq_getElem?_getD, List.getElem?_eq_getElem hi] at this
          rw [← e]; exact this
        have htk : vs.take k = vs := List.take_of_length_le (by rw [HN.out]; omega)
        have hc : cd = if n < 0 ∨ 1000 < n then 1 else if vs.sum = 0 then 6 else 0 := by
          rw [← HC.out]; unfold lcode; rw [if_neg (by have := HN.out; omega), if_pos hall]
        have hv : lv = if cd = 0 then vs.sum else 0 := by rw [← HV.out]; unfold lval; rw [HC.out]
        rw [htk] at s1 s2 ⊢
        clear htk hall hok
        generalize vs.sum = S at *
        by_cases hn : n < 0 ∨ 1000 < n
        · rw [if_pos hn] at hc
          subst hc
          rw [if_neg (by omega)] at hv
          subst hv
          have hn' : n < 0 ∨ (0 ≤ n ∧ 1000 < n) := by omega
          clear hn hlt
          rcases hn' with h | ⟨h, h'⟩
          all_goals
            go_wp2
            go_returns
            exact ⟨rfl, rfl⟩
        · rw [if_neg hn] at hc
          have n1 : 0 ≤ n := by omega
          have n2 : n ≤ 1000 := by omega
          clear hn hlt
          by_cases hz : S = 0
          · rw [if_pos hz] at hc
            subst hc
            rw [if_neg (by omega)] at hv
            subst hv hz
            go_wp2
            go_returns
            exact ⟨rfl, rfl⟩
          · rw [if_neg hz] at hc
            subst hc
            rw [if_pos rfl] at hv
            subst hv
            have hz' : (lv == 0) = false := by simp; omega
            clear hz
            go_wp2
            go_returns
            exact ⟨rfl, rfl⟩

end Go.Proofs.Ytdpphneebikdpaa

/- The walk of seats.Deal: what it hands out is fair. -/
namespace Go.Proofs.Ytdpphneebikdpaa
open Go.ChangeShapes Go.WideShapes Go.ChangeAt Go.RowKit
set_option linter.unusedVariables false
set_option maxRecDepth 100000

theorem info_int : (Try.prog.info? 3).map (fun i => (i.zero, i.size, i.bytes)) = some (some (.int .i64 0), 1, 8) := by kernel_rfl

/-- as a function of the place -/
def at0 (xs : List Int) (i : Nat) : Int := xs.getD i 0
theorem at0_set (xs : List Int) (B i : Nat) (hB : B < xs.length) (v : Int) : at0 (xs.set B v) i = if i = B then v else at0 xs i := by
  unfold at0
  rw [List.getD_eq_getElem?_getD, List.getElem?_set]
  by_cases e : B = i
  · subst e; rw [if_pos rfl, if_pos hB, if_pos rfl]; rfl
  · rw [if_neg e, if_neg (fun h => e h.symm), List.getD_eq_getElem?_getD]
theorem sumTo_list (xs : List Int) (m : Nat) (hm : xs.length = m) : sumTo (at0 xs) m = xs.sum := by
  have key : ∀ k, k ≤ m → sumTo (at0 xs) k = (xs.take k).sum := by
    intro k
    induction k with
    | zero => intro _; simp [sumTo]
    | succ k ih =>
      intro hk
      rw [sum_take_succ _ _ (by omega), ← ih (by omega)]; rfl
  rw [key m (Nat.le_refl _), List.take_of_length_le (by omega)]

/-- the seats after r rounds -/
def DealInv (way : Int) (vs xs : List Int) (r : Nat) : Prop :=
  xs.length = vs.length ∧ Fair way vs.length (at0 vs) (at0 xs) ∧ sumTo (at0 xs) vs.length = r
theorem DealInv.bd {way : Int} {vs xs : List Int} {r : Nat} (h : DealInv way vs xs r) (i : Nat) (hi : i < vs.length) : 0 ≤ xs.getD i 0 ∧ xs.getD i 0 ≤ r := by
  obtain ⟨hl, hf, hs⟩ := h
  have a := hf.1 i hi
  refine ⟨a, ?_⟩
  have := sumTo_le (fun j => if j = i then at0 xs i else 0) (at0 xs) vs.length (fun j hj => by
    by_cases e : j = i
    · subst e; simp
    · (try simp only); rw [if_neg e]; exact hf.1 j hj)
  have e2 := sumTo_upd (fun _ => 0) vs.length i hi (at0 xs i)
  rw [sumTo_const] at e2
  have e3 : sumTo (fun j => if j = i then at0 xs i else 0) vs.length = sumTo (fun j => if j = i then (0 : Int) + at0 xs i else 0) vs.length := sumTo_congr _ _ _ (fun j hj => by by_cases e : j = i <;> simp [e])
  show at0 xs i ≤ r
  omega
theorem DealInv.step {way : Int} {vs xs : List Int} {r B : Nat} (h : DealInv way vs xs r) (hv : ∀ v ∈ vs, voteOk v) (hb : Best way (at0 vs) (at0 xs) vs.length B) :
    B < vs.length ∧ DealInv way vs (xs.set B (xs.getD B 0 + 1)) (r + 1) := by
  obtain ⟨hl, hf, hs⟩ := h
  obtain ⟨hB, hn⟩ := hf.next (fun i hi => (voteOk_get hv i).1) hb
  have e : at0 (xs.set B (xs.getD B 0 + 1)) = fun i => if i = B then at0 xs i + 1 else at0 xs i := by
    funext i
    rw [at0_set xs B i (by omega)]
    by_cases e : i = B
    · subst e; simp [at0]
    · simp [e]
  refine ⟨hB, by rw [List.length_set]; exact hl, by rw [e]; exact hn, ?_⟩
  rw [e, sumTo_upd _ _ _ hB]; omega

/-- what seats.Deal hands back -/
def DealPost (w : World) (way : Int) (n : Nat) (vs : List Int) (e : Ending) (w' : World) : Prop :=
  ∃ xs g bs k, e = .returned (.tuple #[.slice (some ⟨g, 0, none⟩) vs.length vs.length, .int .i64 0]) ∧ w' = more w bs k ∧ DealInv way vs xs n ∧ Row (more w bs k) g 0 xs

set_option maxRecDepth 100000 in
set_option maxHeartbeats 6400000 in
theorem deal_ok (way : Int) (n : Nat) (A : Option Addr) (m cap : Nat) (vs : List Int) (w : World) (hw1 : 0 ≤ way) (hw2 : way ≤ 2) (hr : Ri w A vs) (hm : vs.length = m) (hc : lcode n vs = 0) :
    Calls Try.prog 29 #[.int .i64 way, .int .i64 n, .slice A m cap] w (DealPost w way n vs) := by
  obtain ⟨c1, c2, c3, c4, c5⟩ := lcode_zero hc
  have hmk := fun w => run_make_row' (P := Try.prog) 22 3 (.int .i64 0) 8 Try.underlying22 info_int rfl .i64 .i64 m (by omega) (by omega) w
  have hlv : lval n vs = vs.sum := by unfold lval; rw [if_pos hc]
  have HL := Lib.hid (fun w (h : Ri w A vs) => slook_any n A m cap vs w h hm)
  rw [hc, hlv] at HL
  have HV := Lib.hid c2
  have HR := Lib.hid hr
  have HN := Lib.hid hm
  have HSV := Lib.hid (show sumTo (at0 vs) vs.length ≠ 0 by rw [sumTo_list vs _ rfl]; exact c5)
  have HI0 := Lib.hid (show DealInv way vs (List.replicate m 0) 0 from by
    have e : at0 (List.replicate m 0) = fun _ => 0 := by
      funext i; unfold at0; rw [List.getD_eq_getElem?_getD, List.getElem?_replicate]; split <;> rfl
    refine ⟨by simp [hm], by rw [e]; exact Fair.zero _ _ _, by rw [e, sumTo_const]; simp⟩)
  have m40 : m ≤ 40 := by omega
  clear hc hlv hr hm c1 c2 c5
  generalize vs.sum = S at *
  go_enter Try.func29, Try.ntmps29
  go_wp2_with (first | (go_at_call 61; (with_reducible refine (HL.out _ HR.out).mono ?_); rintro e w1 ⟨rfl, rfl⟩))
  rw [ic_zero]
  clear hmk
  go_loopw [33] (fun c wr => ∃ (r : Nat) (xs : List Int), r ≤ n ∧ c = .int .i64 r ∧ Hid (DealInv way vs xs r) ∧ Hid (Below w.heap.size w wr) ∧ Hid (Blk wr w.heap.size 3 (ic xs))) (fun c _ => n - (intOf c).toNat)
  case atStart => exact ⟨0, List.replicate m 0, Nat.zero_le _, rfl, HI0, Lib.hid ((Below.refl _ _).alloc (Nat.le_refl _) _), Lib.hid (Blk.new _ _ _)⟩
  case round =>
    obtain ⟨r, xs, hrn, rfl, hinv, hbel, hblk⟩ := hrel
    by_cases hlt : r < n
    · obtain ⟨wo, rfl⟩ : ∃ wo : World, wo = wr := ⟨_, rfl⟩
      have hri : ((r : Nat) : Int) < (n : Int) := by omega
      have HVR := Lib.hid (fun i (hi : i < m) w2 (h2 : ∃ k, w2 = wo.drewN k) => show ∃ x, A = some x ∧ w2.cell? (x.add i) = some (.int .i64 (vs.getD i 0)) from by
        obtain ⟨k, rfl⟩ := h2
        obtain ⟨x, a, _, b⟩ := (HR.out.below hbel.out).at_ i (by rw [HN.out]; exact hi)
        exact ⟨x, a, b⟩)
      have HXR := Lib.hid (fun i (hi : i < m) w2 (h2 : ∃ k, w2 = wo.drewN k) => show w2.cell? ⟨w.heap.size, i, none⟩ = some (.int .i64 (xs.getD i 0)) from by
        obtain ⟨k, rfl⟩ := h2
        rw [World.cell?_drewN, hblk.out.cell, ic_get _ _ (by rw [hinv.out.1, HN.out]; exact hi)])
      have HXB := Lib.hid (fun i (hi : i < m) => hinv.out.bd i (by rw [HN.out]; exact hi))
      have HVB := Lib.hid (fun i => voteOk_get HV.out i)
      go_wp2
      go_loopw [11, 37] (fun b c w2 => ∃ (i : Nat) (bb : Int), i ≤ m ∧ c = .int .i64 i ∧ b = .int .i64 bb ∧ Hid (Best way (at0 vs) (at0 xs) i bb) ∧ -1 ≤ bb ∧ bb < i ∧ Hid (∃ q, w2 = wo.drewN q)) (fun _ c _ => m - (intOf c).toNat)
      case atStart => exact ⟨0, -1, Nat.zero_le _, rfl, rfl, Lib.hid (Best.zero _ _ _), by omega, by omega, Lib.hid ⟨0, rfl⟩⟩
      case round =>
        obtain ⟨i, bb, him, rfl, rfl, hbest, hb1, hb2, hq⟩ := hrel
        by_cases hil : i < m
        · obtain ⟨x, hA, cv⟩ := HVR.out i hil _ hq.out
          have hii : ((i : Nat) : Int) < (m : Int) := by omega
          obtain ⟨v1, v2⟩ := HVB.out i
          obtain ⟨vi, hvi⟩ : ∃ v, vs.getD i 0 = v := ⟨_, rfl⟩
          have HVI := Lib.hid hvi
          rw [hvi] at cv v1 v2
          clear hvi
          subst hA
          by_cases hz : vi = 0
          · subst hz
            have HB2 := Lib.hid (hbest.out.skip (i := i) HVI.out)
            go_wp2
            go_roundw
            case rel => exact ⟨i + 1, bb, by omega, by go_num, rfl, HB2, by omega, by omega, hq⟩
            case measure => simp [intOf]; omega
          · have vz : (vi == 0) = false := by simp; omega
            have vp : 0 < vi := by omega
            clear hz
            by_cases hbn : bb < 0
            · have HB2 := Lib.hid (hbest.out.first hbn (by show 0 < vs.getD i 0; rw [HVI.out]; exact vp))
              go_wp2
              go_quiet ((go_at_call 62; fail))
              go_wp2
              go_roundw
              case rel => exact ⟨i + 1, i, by omega, by go_num, rfl, HB2, by omega, by omega, Lib.hid (by obtain ⟨q, e⟩ := hq.out; rw [e, World.drewN_drewN]; exact ⟨_, rfl⟩)⟩
              case measure => simp [intOf]; omega
            · obtain ⟨B, rfl⟩ := Int.eq_ofNat_of_zero_le (show 0 ≤ bb by omega)
              obtain ⟨x2, hA2, cB⟩ := HVR.out B (by omega) _ hq.out
              injection hA2 with hA2
              subst hA2
              have cxB := HXR.out B (by omega) _ hq.out
              have cxi := HXR.out i hil _ hq.out
              obtain ⟨b1, b2⟩ := HXB.out B (by omega)
              obtain ⟨b3, b4⟩ := HXB.out i hil
              obtain ⟨b5, b6⟩ := HVB.out B
              have HTake := Lib.hid (fun (h : at0 vs B * dv way (at0 xs i) < at0 vs i * dv way (at0 xs B)) => hbest.out.take (fun j hj => (HXB.out j (by omega)).1) (by show 0 < vs.getD i 0; rw [HVI.out]; exact vp) h)
              have HStay := Lib.hid (fun (h : at0 vs i * dv way (at0 xs B) ≤ at0 vs B * dv way (at0 xs i)) => hbest.out.stay (by show 0 < vs.getD i 0; rw [HVI.out]; exact vp) h)
              have HTake' := Lib.hid (show vs.getD B 0 * dv way (xs.getD i 0) < vi * dv way (xs.getD B 0) → Best way (at0 vs) (at0 xs) (i + 1) i by rw [← HVI.out]; exact HTake.out)
              have HStay' := Lib.hid (show vi * dv way (xs.getD B 0) ≤ vs.getD B 0 * dv way (xs.getD i 0) → Best way (at0 vs) (at0 xs) (i + 1) B by rw [← HVI.out]; exact HStay.out)
              clear HTake HStay
              generalize vs.getD B 0 = vB at *
              generalize xs.getD B 0 = xB at *
              generalize xs.getD i 0 = xi at *
              have HDB := Lib.hid (fun w => divisor_any way xB w (by omega) (by omega))
              have HDI := Lib.hid (fun w => divisor_any way xi w (by omega) (by omega))
              obtain ⟨d1, d2⟩ := dv_bd way xB (by omega) (by omega)
              obtain ⟨d3, d4⟩ := dv_bd way xi (by omega) (by omega)
              generalize dv way xB = dB at *
              generalize dv way xi = dI at *
              obtain ⟨p1, p2⟩ := prod_bd vi dB 1000000 2001 (by omega) (by omega) d1 d2 (by omega)
              obtain ⟨p3, p4⟩ := prod_bd vB dI 1000000 2001 (by omega) (by omega) d3 d4 (by omega)
              have bz : (B : Int) < (m : Int) := by omega
              have by0 : (0 : Int) ≤ (B : Int) := by omega
              clear hbn hb1
              by_cases hgt : vB * dI < vi * dB
              · have HB2 := Lib.hid (HTake'.out hgt)
                have k1 : IntKind.i64.wrap (vi * dB) = vi * dB := IntWalk.i64_in _ (by omega)
                have k2 : IntKind.i64.wrap (vB * dI) = vB * dI := IntWalk.i64_in _ (by omega)
                go_wp2
                go_quiet ((first | (go_at_call 62; (with_reducible exact quiet_eq (HDB.out _))) | (go_at_call 62; (with_reducible exact quiet_eq (HDI.out _)))))
                clear k1 k2
                go_wp2
                go_roundw
                case rel => exact ⟨i + 1, i, by omega, by go_num, rfl, HB2, by omega, by omega, Lib.hid (by obtain ⟨q, e⟩ := hq.out; rw [e, World.drewN_drewN]; exact ⟨_, rfl⟩)⟩
                case measure => simp [intOf]; omega
              · have HB2 := Lib.hid (HStay'.out (by omega))
                have hle : vi * dB ≤ vB * dI := by omega
                clear hgt
                have k1 : IntKind.i64.wrap (vi * dB) = vi * dB := IntWalk.i64_in _ (by omega)
                have k2 : IntKind.i64.wrap (vB * dI) = vB * dI := IntWalk.i64_in _ (by omega)
                go_wp2
                go_quiet ((first | (go_at_call 62; (with_reducible exact quiet_eq (HDB.out _))) | (go_at_call 62; (with_reducible exact quiet_eq (HDI.out _)))))
                clear k1 k2
                go_wp2
                go_roundw
                case rel => exact ⟨i + 1, B, by omega, by go_num, rfl, HB2, by omega, by omega, Lib.hid (by obtain ⟨q, e⟩ := hq.out; rw [e, World.drewN_drewN]; exact ⟨_, rfl⟩)⟩
                case measure => simp [intOf]; omega
        · have e : i = m := by omega
          subst e
          have hbs := hbest.out
          rw [show i = vs.length from HN.out.symm] at hbs
          obtain ⟨B, rfl, hBm⟩ := hbs.some HSV.out
          obtain ⟨hB, hnext⟩ := hinv.out.step HV.out hbs
          have hBi : B < i := by rw [← HN.out]; exact hB
          have cxB := HXR.out B hBi wo ⟨0, rfl⟩
          obtain ⟨b1, b2⟩ := HXB.out B hBi
          obtain ⟨q, hq'⟩ := hq.out
          clear hq
          subst hq'
          have hfz : wo.frozen? ⟨w.heap.size, B, none⟩ = false := hblk.out.frozen B
          have HNext := Lib.hid hnext
          have HBlk := Lib.hid (fun q v => show Blk ((wo.setCell ⟨w.heap.size, B, none⟩ (.int .i64 v)).drewN q) w.heap.size 3 (ic (xs.set B v)) from by
            rw [← ic_set]; exact (hblk.out.set_ B _).drewN q)
          have HBel := Lib.hid (fun q v => show Below w.heap.size w ((wo.setCell ⟨w.heap.size, B, none⟩ v).drewN q) from bel_dN (hbel.out.setCell (Nat.le_refl _) v))
          clear hnext hbs hB
          generalize xs.getD B 0 = xB at *
          go_wp2
          go_roundw
          case rel => exact ⟨r + 1, xs.set B (xB + 1), by omega, by go_num, HNext, Lib.hid (HBel.out _ _), Lib.hid (HBlk.out _ _)⟩
          case measure => simp [intOf]; omega
    · have e : r = n := by omega
      subst e
      go_wp2
      go_returns
      obtain ⟨bs, k, e⟩ := Mor.of_below hbel.out
      refine ⟨xs, w.heap.size, bs, k, by rw [HN.out]; rfl, e, hinv.out, ?_⟩
      rw [← e]; exact hblk.out.row

theorem deal_int (way nI : Int) (n : Nat) (A : Option Addr) (m cap : Nat) (vs : List Int) (w : World) (hn : nI = n) (hw1 : 0 ≤ way) (hw2 : way ≤ 2) (hr : Ri w A vs) (hm : vs.length = m) (hc : lcode nI vs = 0) :
    Calls Try.prog 29 #[.int .i64 way, .int .i64 nI, .slice A m cap] w (DealPost w way n vs) := by
  subst hn; exact deal_ok way n A m cap vs w hw1 hw2 hr hm hc

end Go.Proofs.Ytdpphneebikdpaa

/- Known deals; what a law of seats asks of seats.Deal. -/
namespace Go.Proofs.Ytdpphneebikdpaa
open Go.ChangeShapes Go.WideShapes Go.ChangeAt Go.RowKit
set_option linter.unusedVariables false
set_option maxRecDepth 100000

/-- the same deal -/
theorem deal_known {way : Int} {vs xs ys : List Int} {n : Nat} (hv : ∀ v ∈ vs, voteOk v) (h : DealInv way vs xs n) (h' : DealInv way vs ys n) : xs = ys := by
  apply List.ext_getElem
  · rw [h.1, h'.1]
  · intro i h1 h2
    have := fair_unique (fun i hi => (voteOk_get hv i).1) h.2.1 h'.2.1 (by rw [h.2.2, h'.2.2]) i (by rw [← h.1]; exact h1)
    simpa [at0, List.getD_eq_getElem?_getD, h1, h2] using this
end Go.Proofs.Ytdpphneebikdpaa

/- The walk of seats.Quotas. -/
namespace Go.Proofs.Ytdpphneebikdpaa
open Go.ChangeShapes Go.WideShapes Go.ChangeAt Go.RowKit
set_option linter.unusedVariables false
set_option maxRecDepth 100000

/-- the quotas, rounded down -/
def quo (n S : Int) (vs : List Int) : List Int := vs.map (fun v => n * v / S)
theorem quo_len (n S : Int) (vs : List Int) : (quo n S vs).length = vs.length := by simp [quo]
theorem quo_get (n S : Int) (vs : List Int) (i : Nat) (hi : i < vs.length) : (quo n S vs).getD i 0 = n * vs.getD i 0 / S := by
  simp [quo, List.getD_eq_getElem?_getD, hi]
/-- the block after k rounds -/
def quoK (n S : Int) (vs : List Int) (k : Nat) : List Int := (List.range vs.length).map (fun i => if i < k then n * vs.getD i 0 / S else 0)
theorem quoK_len (n S : Int) (vs : List Int) (k : Nat) : (quoK n S vs k).length = vs.length := by simp [quoK]
theorem quoK_get (n S : Int) (vs : List Int) (k i : Nat) : (quoK n S vs k)[i]? = if i < vs.length then some (if i < k then n * vs.getD i 0 / S else 0) else none := by
  unfold quoK
  rw [List.getElem?_map]
  by_cases h : i < vs.length
  · rw [List.getElem?_range h, if_pos h]; rfl
  · rw [List.getElem?_eq_none (by simpa using h), if_neg h]; rfl
theorem quoK_zero (n S : Int) (vs : List Int) : List.replicate vs.length 0 = quoK n S vs 0 := by
  apply List.ext_getElem?
  intro i
  rw [quoK_get, List.getElem?_replicate]
  by_cases h : i < vs.length <;> simp [h]
theorem quoK_end (n S : Int) (vs : List Int) : quoK n S vs vs.length = quo n S vs := by
  apply List.ext_getElem?
  intro i
  rw [quoK_get]
  by_cases h : i < vs.length
  · rw [if_pos h, if_pos h]; simp [quo, List.getD_eq_getElem?_getD, h]
  · rw [if_neg h, List.getElem?_eq_none (by rw [quo_len]; omega)]
theorem quoK_step (n S : Int) (vs : List Int) (k : Nat) (hk : k < vs.length) : (quoK n S vs k).set k (n * vs.getD k 0 / S) = quoK n S vs (k + 1) := by
  apply List.ext_getElem?
  intro i
  rw [List.getElem?_set, quoK_len, quoK_get, quoK_get]
  by_cases e : k = i
  · subst e; rw [if_pos rfl, if_pos hk, if_pos hk, if_pos (by omega)]
  · rw [if_neg e]
    by_cases h1 : i < k
    · rw [if_pos h1, if_pos (show i < k + 1 by omega)]
    · rw [if_neg h1, if_neg (show ¬ i < k + 1 by omega)]

/-- what seats.Quotas hands back -/
def QuotasPost (w : World) (n : Int) (vs : List Int) (e : Ending) (w' : World) : Prop :=
  ∃ g bs k, e = .returned (.tuple #[.slice (some ⟨g, 0, none⟩) vs.length vs.length, .int .i64 0]) ∧ w' = more w bs k ∧ Row (more w bs k) g 0 (quo n vs.sum vs)

set_option maxRecDepth 100000 in
set_option maxHeartbeats 3200000 in
theorem quotas_ok (n : Int) (A : Option Addr) (m cap : Nat) (vs : List Int) (w : World) (hr : Ri w A vs) (hm : vs.length = m) (hc : lcode n vs = 0) :
    Calls Try.prog 28 #[.int .i64 n, .slice A m cap] w (QuotasPost w n vs) := by
  obtain ⟨c1, c2, c3, c4, c5⟩ := lcode_zero hc
  have hmk := fun w => run_make_row' (P := Try.prog) 22 3 (.int .i64 0) 8 Try.underlying22 info_int rfl .i64 .i64 m (by omega) (by omega) w
  have hlv : lval n vs = vs.sum := by unfold lval; rw [if_pos hc]
  have HL := Lib.hid (fun w (h : Ri w A vs) => slook_any n A m cap vs w h hm)
  rw [hc, hlv] at HL
  have HR := Lib.hid hr
  have HN := Lib.hid hm
  have m40 : m ≤ 40 := by omega
  have sb : 0 ≤ vs.sum ∧ vs.sum ≤ 40000000 := by
    have key : ∀ l : List Int, (∀ v ∈ l, voteOk v) → 0 ≤ l.sum ∧ l.sum ≤ l.length * 1000000 := by
      intro l
      induction l with
      | nil => intro _; simp
      | cons x l ih =>
        intro h
        have a := h x (by simp)
        have b := ih (fun v hv => h v (by simp [hv]))
        unfold voteOk at a
        simp only [List.sum_cons, List.length_cons]
        rw [show ((l.length + 1 : Nat) : Int) * 1000000 = l.length * 1000000 + 1000000 by omega]
        omega
    have := key vs c2
    omega
  obtain ⟨s1, s2⟩ := sb
  have s3 : 1 ≤ vs.sum := by omega
  have HVB := Lib.hid (fun i => voteOk_get c2 i)
  obtain ⟨S, hS⟩ : ∃ S, vs.sum = S := ⟨_, rfl⟩
  have HS := Lib.hid hS
  rw [hS] at HL s1 s2 s3
  have HST := Lib.hid (fun k (hk : k < m) => quoK_step n S vs k (by omega))
  clear hc hlv hr hm c1 c2 c5 hS s1
  go_enter Try.func28, Try.ntmps28
  go_wp2_with (first | (go_at_call 61; (with_reducible refine (HL.out _ HR.out).mono ?_); rintro e w1 ⟨rfl, rfl⟩))
  rw [ic_zero]
  clear hmk
  go_loopw [25] (fun c wr => ∃ (r : Nat), r ≤ m ∧ c = .int .i64 r ∧ Hid (Below w.heap.size w wr) ∧ Hid (Blk wr w.heap.size 3 (ic (quoK n S vs r)))) (fun c _ => m - (intOf c).toNat)
  case atStart => exact ⟨0, Nat.zero_le _, rfl, Lib.hid ((Below.refl _ _).alloc (Nat.le_refl _) _), Lib.hid (by rw [← quoK_zero, HN.out]; exact Blk.new _ _ _)⟩
  case round =>
    obtain ⟨r, hrm, rfl, hbel, hblk⟩ := hrel
    by_cases hlt : r < m
    · have hri : ((r : Nat) : Int) < (m : Int) := by omega
      obtain ⟨x, hA, hxb, cv⟩ := (HR.out.below hbel.out).at_ r (by rw [HN.out]; exact hlt)
      subst hA
      have cq : ∃ u, wr.cell? ⟨w.heap.size, r, none⟩ = some (.int .i64 u) := ⟨_, by rw [hblk.out.cell, ic_get _ _ (by rw [quoK_len, HN.out]; exact hlt)]⟩
      obtain ⟨u, cq⟩ := cq
      have hfz : wr.frozen? ⟨w.heap.size, r, none⟩ = false := hblk.out.frozen r
      obtain ⟨v1, v2⟩ := HVB.out r
      have HST' := Lib.hid (HST.out r hlt)
      have HBlk := Lib.hid (show Blk (wr.setCell ⟨w.heap.size, r, none⟩ (.int .i64 (n * vs.getD r 0 / S))) w.heap.size 3 (ic (quoK n S vs (r + 1))) from by
        rw [← HST'.out, ← ic_set]; exact hblk.out.set_ r _)
      have HBel := Lib.hid (show Below w.heap.size w (wr.setCell ⟨w.heap.size, r, none⟩ (.int .i64 (n * vs.getD r 0 / S))) from hbel.out.setCell (Nat.le_refl _) _)
      generalize vs.getD r 0 = v at *
      obtain ⟨p1, p2⟩ := prod_bd n v 1000 1000000 (by omega) (by omega) v1 v2 (by omega)
      have p3 : 0 ≤ n * v := Int.mul_nonneg c3 v1
      have p4 := Int.ediv_nonneg p3 (show 0 ≤ S by omega)
      have p5 := Int.ediv_le_self S p3
      go_wp2
      go_roundw
      case rel => exact ⟨r + 1, by omega, by go_num, HBel, HBlk⟩
      case measure => simp [intOf]; omega
    · have e : r = m := by omega
      subst e
      go_wp2
      go_returns
      obtain ⟨bs, k, e⟩ := Mor.of_below hbel.out
      refine ⟨w.heap.size, bs, k, by rw [HN.out]; rfl, e, ?_⟩
      rw [← e, HS.out]
      have hb := hblk.out
      rw [show r = vs.length from HN.out.symm, quoK_end] at hb
      exact hb.row

end Go.Proofs.Ytdpphneebikdpaa

/- Slices of integers that a callee turns in place; the walks of swapRangeCmpFunc and rotateCmpFunc at int. -/
namespace Go.Proofs.Ytdpphneebikdpaa
open Go.ChangeShapes Go.WideShapes Go.ChangeAt Go.RowKit Stb
set_option linter.unusedVariables false
set_option maxRecDepth 100000

/-- all but the block g is as it was; the rest may have grown -/
structure On (g : Nat) (w w' : World) : Prop where
  os : w'.os = w.os
  tape : w'.tape = w.tape
  output : w'.output = w.output
  size : w.heap.size ≤ w'.heap.size
  block : ∀ k, k ≠ g → k < w.heap.size → w'.heap[k]? = w.heap[k]?
theorem On.refl (g : Nat) (w : World) : On g w w := ⟨rfl, rfl, rfl, Nat.le_refl _, fun _ _ _ => rfl⟩
theorem On.trans {g : Nat} {a b c : World} (h : On g a b) (k : On g b c) : On g a c :=
  ⟨k.os.trans h.os, k.tape.trans h.tape, k.output.trans h.output, Nat.le_trans h.size k.size, fun i hi hl => (k.block i hi (Nat.lt_of_lt_of_le hl h.size)).trans (h.block i hi hl)⟩
theorem On.setCell {g i : Nat} {w w' : World} (h : On g w w') (u : Value) : On g w (w'.setCell ⟨g, i, none⟩ u) :=
  ⟨h.os, h.tape, h.output, by show _ ≤ (w'.setCell _ _).heap.size; simpa [World.setCell] using h.size, fun k hk hl => (Below.heap_setCell _ _ _ _ hk).trans (h.block k hk hl)⟩
theorem On.drew {g : Nat} {w w' : World} (h : On g w w') : On g w w'.drew := ⟨h.os, h.tape, h.output, h.size, h.block⟩
theorem On.drewN {g n : Nat} {w w' : World} (h : On g w w') : On g w (w'.drewN n) := ⟨h.os, h.tape, h.output, h.size, h.block⟩
theorem On.below {g : Nat} {w w' : World} (h : On g w w') (hg : w.heap.size ≤ g) : Below w.heap.size w w' :=
  ⟨h.os, h.tape, h.output, h.size, fun k hk => h.block k (by omega) hk⟩
theorem On.blk {g : Nat} {w w' : World} {b : Nat} {t : TypeId} {cs : Array Value} (h : On g w w') (hb : Blk w b t cs) (hne : b ≠ g) : Blk w' b t cs := (h.block b hne hb.lt).trans hb
theorem On.of_below {g B : Nat} {w w' : World} (h : Below B w w') (hg : g < B) (h2 : ∀ k, k ≠ g → k < w.heap.size → w'.heap[k]? = w.heap[k]?) : On g w w' := ⟨h.os, h.tape, h.output, h.size, h2⟩

/-- the block g begins with the integers xs -/
def Dat (w : World) (g : Nat) (xs : List Int) : Prop := ∃ T cur, Blk w g T cur ∧ CurR cur xs
theorem Dat.cell {w : World} {g : Nat} {xs : List Int} (h : Dat w g xs) (i : Nat) (hi : i < xs.length) : w.cell? ⟨g, i, none⟩ = some (.int .i64 (ge xs i)) := by
  obtain ⟨T, cur, hb, hc⟩ := h
  rw [hb.cell]; exact hc i hi
theorem Dat.frozen {w : World} {g : Nat} {xs : List Int} (h : Dat w g xs) (i : Nat) : w.frozen? ⟨g, i, none⟩ = false := by
  obtain ⟨T, cur, hb, hc⟩ := h
  exact hb.frozen i
theorem Dat.swp {w : World} {g : Nat} {xs : List Int} (h : Dat w g xs) (i j : Nat) : Dat ((w.setCell ⟨g, i, none⟩ (.int .i64 (ge xs j))).setCell ⟨g, j, none⟩ (.int .i64 (ge xs i))) g (swp xs i j) := by
  obtain ⟨T, cur, hb, hc⟩ := h
  exact ⟨T, _, (hb.set_ i _).set_ j _, (hc.set i _).set j _⟩
theorem Dat.drewN {w : World} {g n : Nat} {xs : List Int} (h : Dat w g xs) : Dat (w.drewN n) g xs := h
theorem Dat.drew {w : World} {g : Nat} {xs : List Int} (h : Dat w g xs) : Dat w.drew g xs := h
theorem Dat.lt {w : World} {g : Nat} {xs : List Int} (h : Dat w g xs) : g < w.heap.size := by
  obtain ⟨T, cur, hb, hc⟩ := h
  exact hb.lt
theorem Dat.mor {w w' : World} {g : Nat} {xs : List Int} (h : Dat w g xs) (hm : Mor w w') : Dat w' g xs := by
  obtain ⟨T, cur, hb, hc⟩ := h
  exact ⟨T, cur, hb.below hm.below hb.lt, hc⟩
/-- a callee turned the integers of the block g to some that are as R says -/
def ModPost (w : World) (g : Nat) (R : List Int → Prop) (e : Ending) (w' : World) : Prop :=
  e = .returned (.tuple #[]) ∧ ∃ ys, R ys ∧ Dat w' g ys ∧ On g w w'

set_option maxRecDepth 100000 in
set_option maxHeartbeats 3200000 in
theorem swr_any (g N cap a b n : Nat) (cv : Value) (xs : List Int) (w : World) (hd : Dat w g xs) (hN : xs.length = N) (hl : N ≤ 1000) (h1 : a + n ≤ b) (h2 : b + n ≤ N) :
    Calls Try.prog 102 #[.slice (some ⟨g, 0, none⟩) N cap, .int .i64 a, .int .i64 b, .int .i64 n, cv] w (ModPost w g (fun ys => Swr xs ys a b n)) := by
  have HD := Lib.hid hd
  have HN := Lib.hid hN
  clear hd hN
  go_enter Try.func102, Try.ntmps102
  go_wp2
  go_loopw [10] (fun i wr => ∃ (k : Nat) (ys : List Int), k ≤ n ∧ i = .int .i64 k ∧ Hid (Swr xs ys a b k) ∧ Hid (Dat wr g ys) ∧ Hid (On g w wr)) (fun i _ => n - (intOf i).toNat)
  case atStart => exact ⟨0, xs, Nat.zero_le _, rfl, Lib.hid (Swr.zero _ _ _), HD, Lib.hid (On.refl _ _)⟩
  case round =>
    obtain ⟨k, ys, hk, rfl, HS, HY, HO⟩ := hrel
    by_cases hlt : k < n
    · have hki : (k : Int) < (n : Int) := by omega
      obtain ⟨p, hp⟩ : ∃ p, p = a + k := ⟨_, rfl⟩
      obtain ⟨q, hq⟩ : ∃ q, q = b + k := ⟨_, rfl⟩
      have e1 : (a : Int) + (k : Int) = (p : Int) := by omega
      have e2 : (b : Int) + (k : Int) = (q : Int) := by omega
      have p0 : (0 : Int) ≤ (p : Int) := by omega
      have q0 : (0 : Int) ≤ (q : Int) := by omega
      have pN : (p : Int) < (N : Int) := by omega
      have qN : (q : Int) < (N : Int) := by omega
      have hyl : ys.length = N := by rw [HS.out.len, HN.out]
      have cp := HY.out.cell p (by omega)
      have cq := HY.out.cell q (by omega)
      have fp := HY.out.frozen p
      have fq := HY.out.frozen q
      have HS' := Lib.hid (show Swr xs (swp ys p q) a b (k + 1) by rw [hp, hq]; exact HS.out.step (by omega) (by rw [HN.out]; omega))
      have HY' := Lib.hid (HY.out.swp p q)
      have HO' := Lib.hid ((HO.out.setCell (i := p) (.int .i64 (ge ys q))).setCell (i := q) (.int .i64 (ge ys p)))
      have hpq : p ≠ q := by omega
      generalize ge ys p = u at *
      generalize ge ys q = v at *
      clear hp hq hyl
      go_wp2
      go_region
      all_goals go_wp2
      go_roundw
      case rel => exact ⟨k + 1, swp ys p q, by omega, by go_num, HS', Lib.hid (Dat.drew HY'.out), Lib.hid (On.drew HO'.out)⟩
      case measure => simp [intOf]; omega
    · obtain rfl : k = n := by omega
      go_wp2
      go_end0
      exact ⟨rfl, ys, HS.out, HY.out, HO.out⟩

end Go.Proofs.Ytdpphneebikdpaa

/- The walk of rotateCmpFunc at int. -/
namespace Go.Proofs.Ytdpphneebikdpaa
open Go.ChangeShapes Go.WideShapes Go.ChangeAt Go.RowKit Stb
set_option linter.unusedVariables false
set_option maxRecDepth 100000

theorem rotl_ex {xs : List Int} {a m b : Nat} (h1 : a ≤ m) (h2 : m ≤ b) (h3 : b ≤ xs.length) : ∃ ts, Todo xs ts a m b := by
  refine ⟨(List.range xs.length).map fun i => ge xs (rix a m b i), by simp, fun i => ?_⟩
  rw [List.getElem?_map]
  by_cases h : i < xs.length
  · rw [List.getElem?_range h, ge_some (by unfold rix; split <;> (try split) <;> omega)]; rfl
  · rw [List.getElem?_eq_none (by simpa using h), rix, if_pos (by omega), List.getElem?_eq_none (by omega)]; rfl

set_option maxRecDepth 100000 in
set_option maxHeartbeats 3200000 in
theorem rot_any (g N cap a m b : Nat) (cv : Value) (xs : List Int) (w : World) (hd : Dat w g xs) (hN : xs.length = N) (hl : N ≤ 1000) (h1 : a < m) (h2 : m < b) (h3 : b ≤ N) :
    Calls Try.prog 100 #[.slice (some ⟨g, 0, none⟩) N cap, .int .i64 a, .int .i64 m, .int .i64 b, cv] w (ModPost w g (fun ys => Rot xs ys a m b)) := by
  have HD := Lib.hid hd
  have HN := Lib.hid hN
  obtain ⟨ts, hts⟩ := rotl_ex (xs := xs) (a := a) (m := m) (b := b) (by omega) (by omega) (by omega)
  have HT := Lib.hid hts
  have HSw := Lib.hid (fun a b n ys w (h : Dat w g ys) (h2 : ys.length = N) => swr_any g N cap a b n cv ys w h h2 hl)
  clear hts
  clear hd hN
  go_enter Try.func100, Try.ntmps100
  go_wp2
  go_loopw [10, 11] (fun vi vj wr => ∃ (i j : Nat) (ys : List Int), 1 ≤ i ∧ a + i ≤ m ∧ 1 ≤ j ∧ m + j ≤ b ∧ vi = .int .i64 i ∧ vj = .int .i64 j ∧ Hid (ys.length = N) ∧ Hid (Todo ys ts (m - i) m (m + j)) ∧ Hid (Dat wr g ys) ∧ Hid (On g w wr)) (fun vi vj _ => (intOf vi).toNat + (intOf vj).toNat)
  case atStart => exact ⟨m - a, b - m, xs, by omega, by omega, by omega, by omega, by congr 1; omega, by congr 1; omega, HN, Lib.hid (by have := HT.out; rw [show m - (m - a) = a by omega, show m + (b - m) = b by omega]; exact this), HD, Lib.hid (On.refl _ _)⟩
  case round =>
    obtain ⟨i, j, ys, i1, i2, j1, j2, rfl, rfl, HL, HTo, HY, HO⟩ := hrel
    obtain ⟨p, hp⟩ : ∃ p, p = m - i := ⟨_, rfl⟩
    have e1 : (m : Int) - (i : Int) = (p : Int) := by omega
    have HP := Lib.hid hp
    clear hp
    by_cases hij : i = j
    · subst hij
      have HC := Lib.hid (HSw.out p m i ys wr HY.out HL.out (by rw [HP.out]; omega) (by omega))
      go_wp2_with (first | (go_at_call 102; (with_reducible refine HC.out.mono ?_); rintro e w1 ⟨rfl, zs, hz, hdz, hon⟩))
      go_end0
      rw [HP.out] at hz
      obtain rfl := HTo.out.last hz (by omega)
      exact ⟨rfl, ts, ⟨by rw [hz.len, HL.out, HN.out], HT.out.at_⟩, hdz, HO.out.trans hon⟩
    · by_cases hlt : j < i
      · have hji : (j : Int) < (i : Int) := by omega
        have hne : ((i : Int) == (j : Int)) = false := by simp; omega
        have HC := Lib.hid (HSw.out p m j ys wr HY.out HL.out (by rw [HP.out]; omega) (by omega))
        clear hij
        go_wp2_with (first | (go_at_call 102; (with_reducible refine HC.out.mono ?_); rintro e w1 ⟨rfl, zs, hz, hdz, hon⟩))
        have HZ := Lib.hid hz
        have HDz := Lib.hid hdz
        have HOn := Lib.hid (HO.out.trans hon)
        clear hz hdz hon
        go_roundw
        case rel => exact ⟨i - j, j, zs, by omega, by omega, j1, j2, by congr 1; omega, rfl, Lib.hid (by rw [HZ.out.len, HL.out]), Lib.hid (by have h := HZ.out; rw [HP.out] at h; exact HTo.out.left h (by omega) hlt), HDz, HOn⟩
        case measure => simp [intOf]; omega
      · have hji : ¬ ((j : Int) < (i : Int)) := by omega
        have hne : ((i : Int) == (j : Int)) = false := by simp; omega
        obtain ⟨q, hq⟩ : ∃ q, q = m + j := ⟨_, rfl⟩
        obtain ⟨r, hr⟩ : ∃ r, r = q - i := ⟨_, rfl⟩
        have e2 : (m : Int) + (j : Int) = (q : Int) := by omega
        have e3 : (q : Int) - (i : Int) = (r : Int) := by omega
        have HC := Lib.hid (HSw.out p r i ys wr HY.out HL.out (by rw [HP.out]; omega) (by omega))
        have HQ := Lib.hid (show r = m + j - i by omega)
        have hil : i < j := by omega
        clear hij hq hr
        go_wp2_with (first | (go_at_call 102; (with_reducible refine HC.out.mono ?_); rintro e w1 ⟨rfl, zs, hz, hdz, hon⟩))
        have HZ := Lib.hid hz
        have HDz := Lib.hid hdz
        have HOn := Lib.hid (HO.out.trans hon)
        clear hz hdz hon
        go_roundw
        case rel => exact ⟨i, j - i, zs, i1, i2, by omega, by omega, rfl, by congr 1; omega, Lib.hid (by rw [HZ.out.len, HL.out]), Lib.hid (by have h := HZ.out; rw [HP.out, HQ.out] at h; exact HTo.out.right h (by omega) hil), HDz, HOn⟩
        case measure => simp [intOf]; omega

end Go.Proofs.Ytdpphneebikdpaa
