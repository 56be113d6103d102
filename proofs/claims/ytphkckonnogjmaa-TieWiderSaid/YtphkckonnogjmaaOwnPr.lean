/- Slices of items that the call itself makes; how many are tied. -/
import Derived.Test.YtphkckonnogjmaaTieB
namespace Go.Proofs.Ytphkckonnogjmaa
open Go.ChangeShapes Go.WideShapes Go.ChangeAt Go.RowKit Stb
set_option linter.unusedVariables false

theorem info_item : (Try.prog.info? 28).map (fun i => (i.zero, i.size, i.bytes)) = some (some (.agg #[.int .i64 0, .int .i64 0]), 2, 16) := by kernel_rfl
/-- the two cells of an item -/
def pp (p : Pr) : List Value := [.int .i64 p.1, .int .i64 p.2]
theorem Rd.pi {w : World} {A : Option Addr} {xs : List Pr} (h : Rd w A (flat pp xs)) : Pi w A xs := by
  by_cases h0 : xs = []
  · exact .inl h0
  · have hl : 0 < xs.length := List.length_pos_iff.2 h0
    obtain ⟨b, o, rfl, hb, _⟩ := h.field 2 (fun _ => rfl) 0 hl (by omega)
    refine .inr ⟨_, rfl, hb, fun i hi => ?_⟩
    obtain ⟨b', o', e, _, hc⟩ := h.field 2 (fun _ => rfl) i hi (by omega)
    injection e with e
    injection e with e1 e2
    subst e1 e2
    rw [adds]
    refine ⟨?_, ?_⟩
    · have := hc 0 (by omega)
      rw [Nat.add_zero] at this
      rw [this]
      unfold px
      rw [show xs.getD i (0, 0) = xs[i] by rw [List.getD_eq_getElem?_getD, List.getElem?_eq_getElem hi]; rfl]; rfl
    · have := hc 1 (by omega)
      rw [this]
      unfold py
      rw [show xs.getD i (0, 0) = xs[i] by rw [List.getD_eq_getElem?_getD, List.getElem?_eq_getElem hi]; rfl]; rfl
theorem own_pi {w : World} {base n c : Nat} {T : TypeId} {A : Option Addr} {xs : List Pr} (h : w.ownsRow base T 2 (.slice A n c) n (flat pp xs)) : Pi w A xs := (Rd.own h).pi
theorem pi_new {w : World} {b : Nat} {T : TypeId} {C : Array Value} (xs : List Pr) (hb : b = w.heap.size) (hC : C = (flat pp xs).toArray) : Pi (w.alloc (.cells C T)) (some ⟨b, 0, none⟩) xs := (Rd.new _ hb hC).pi
/-- what was appended to its own row, behind three blocks, turned nothing of what was there -/
theorem own_step3 {w wr w1 : World} {T : TypeId} {s : Nat} {v : Value} {n : Nat} {xs : List Value} {o1 o2 o3 : Obj} (hown : wr.ownsRow w.heap.size T s v n xs) (hnx : Below w.heap.size w wr)
    (hgrow : (((wr.alloc o1).alloc o2).alloc o3).grownBy w1 v.ownBlock) : Below w.heap.size w w1 := by
  have h1 : Below w.heap.size w ((wr.alloc o1).alloc o2) := by
    have := hnx.alloc hnx.size o1
    exact this.alloc this.size o2
  exact own_stepS (m := 0) ((hown.alloc _).alloc _) h1 hgrow

theorem own_step2 {w wr w1 : World} {T : TypeId} {s : Nat} {v : Value} {n : Nat} {xs : List Value} {o1 o2 : Obj} (hown : wr.ownsRow w.heap.size T s v n xs) (hnx : Below w.heap.size w wr)
    (hgrow : ((wr.alloc o1).alloc o2).grownBy w1 v.ownBlock) : Below w.heap.size w w1 :=
  own_stepS (m := 0) (hown.alloc _) (hnx.alloc hnx.size o1) hgrow
theorem tied_succ (xs : List Int) (k : Nat) (h : k < xs.length) : tied (xs.take (k + 1)) = tied (xs.take k) + if 0 ≤ xs.getD k 0 then 1 else 0 := by
  unfold tied
  rw [List.take_succ_eq_append_getElem h, List.filter_append, List.length_append]
  congr 1
  rw [List.getD_eq_getElem?_getD, List.getElem?_eq_getElem h, Option.getD_some]
  by_cases c : 0 ≤ xs[k]
  · rw [List.filter_cons_of_pos (by simpa using c), if_pos c]; rfl
  · rw [List.filter_cons_of_neg (by simpa using c), if_neg c]; rfl
theorem tied_le (xs : List Int) (k : Nat) : tied (xs.take k) ≤ k := by
  unfold tied
  refine Nat.le_trans (List.length_filter_le _ _) ?_
  rw [List.length_take]; omega

set_option maxHeartbeats 1600000 in
theorem tied_any (A : Option Addr) (n cap : Nat) (xs : List Int) (w : World) (hr : Ri w A xs) (hn : xs.length = n) (hl : n ≤ 1000) :
    Calls Try.prog 25 #[.slice A n cap] w fun e w' => e = .returned (.int .i64 (tied xs)) ∧ w = w' := by
  have HR := Lib.hid hr
  have HN := Lib.hid hn
  clear hr hn
  go_enter Try.func25, Try.ntmps25
  go_wp2
  go_loop [3, 8] (fun v i => ∃ k : Nat, k ≤ n ∧ i = .int .i64 k ∧ v = .int .i64 (tied (xs.take k))) (fun _ i => n - (intOf i).toNat)
  case atStart => exact ⟨0, Nat.zero_le _, rfl, rfl⟩
  case round =>
    obtain ⟨k, hk, rfl, rfl⟩ := hrel
    by_cases hlt : k < n
    · have hki : (k : Int) < (n : Int) := by omega
      have hk0 : (0 : Int) ≤ (k : Int) := by omega
      obtain ⟨x, hA, hxb, cv⟩ := HR.out.at_ k (by rw [HN.out]; exact hlt)
      subst hA
      have HS := Lib.hid (tied_succ xs k (by rw [HN.out]; exact hlt))
      have ht := tied_le xs k
      generalize tied (xs.take k) = t at *
      generalize xs.getD k 0 = y at *
      by_cases c : 0 ≤ y
      · go_wp2
        go_round
        case rel => exact ⟨k + 1, by omega, by go_num, by rw [HS.out, if_pos c]; rfl⟩
        case measure => simp [intOf]; omega
      · go_wp2
        go_round
        case rel => exact ⟨k + 1, by omega, by go_num, by rw [HS.out, if_neg c]; rfl⟩
        case measure => simp [intOf]; omega
    · obtain rfl : k = n := by omega
      have HE := Lib.hid (show tied (xs.take k) = tied xs by rw [List.take_of_length_le (by rw [HN.out]; exact Nat.le_refl _)])
      rw [HE.out]
      go_wp2
      go_ret
      exact ⟨rfl, rfl⟩

end Go.Proofs.Ytphkckonnogjmaa
