/- The walks of entry.lines and entry.Check. -/
import Derived.Test.YtpgefclnplmlkaaEntA
import Derived.Shelf.Abstract
import Derived.Deep.LoopGhost
import Derived.DataElems
namespace Go.Proofs.Ytpgefclnplmlkaa
open Go.ChangeShapes Go.WideShapes Go.ChangeAt Go.RowKit Go.PlainAid
set_option linter.unusedVariables false

theorem Mor.trans' {w w1 w2 : World} (h : Mor w w1) (h' : Mor w1 w2) : Mor w w2 := by
  obtain ⟨bs, k, rfl⟩ := h'; exact h.more
/-- the slice at A reads the pairs xs -/
def Si (w : World) (A : Option Addr) (xs : List Ln) : Prop :=
  xs = [] ∨ ∃ x, A = some x ∧ x.block < w.heap.size ∧ ∀ i, i < xs.length → w.cell? (x.add (i * 2)) = some (.string (cd xs i)) ∧ w.cell? ⟨(x.add (i * 2)).block, (x.add (i * 2)).off + 1, none⟩ = some (.int .i64 (am xs i))
theorem addb (x : Addr) (i : Nat) : (x.add i).block = x.block := by unfold Addr.add; split <;> rfl
theorem Si.mor {w w' : World} {A : Option Addr} {xs : List Ln} (h : Si w A xs) (hm : Mor w w') : Si w' A xs := by
  rcases h with h | ⟨x, e, hb, hc⟩
  · exact .inl h
  · have hB := hm.below
    exact .inr ⟨x, e, by have := hB.size; omega, fun i hi => ⟨(hB.cell (p := x.add (i * 2)) (by rw [addb]; exact hb)).trans (hc i hi).1, (hB.cell (p := ⟨(x.add (i * 2)).block, (x.add (i * 2)).off + 1, none⟩) (by rw [addb]; exact hb)).trans (hc i hi).2⟩⟩
theorem Si.at_ {w : World} {A : Option Addr} {xs : List Ln} (h : Si w A xs) (i : Nat) (hi : i < xs.length) :
    ∃ x, A = some x ∧ x.block < w.heap.size ∧ w.cell? (x.add (i * 2)) = some (.string (cd xs i)) ∧ w.cell? ⟨(x.add (i * 2)).block, (x.add (i * 2)).off + 1, none⟩ = some (.int .i64 (am xs i)) := by
  rcases h with h | ⟨x, e, hb, hc⟩
  · subst h; simp at hi
  · exact ⟨x, e, hb, hc i hi⟩

set_option maxHeartbeats 400000 in
theorem mon_any (a : Int) (w : World) : Calls Try.prog 83 #[.int .i64 a] w fun e w' => e = .returned (.bool (decide (-1000000000000 ≤ a) && decide (a ≤ 1000000000000))) ∧ w = w' := by
  by_cases h1 : -1000000000000 ≤ a <;> by_cases h2 : a ≤ 1000000000000
  all_goals
    go_enter Try.func83, Try.ntmps83
    go_wp2
    go_ret
    exact ⟨by simp [h1, h2], rfl⟩
set_option maxHeartbeats 400000 in
theorem cis_any (n : Int) (w : World) : Calls Try.prog 38 #[.int .i64 n] w fun e w' => e = .returned (.bool (decide (0 ≤ n) && decide (n ≤ 292193))) ∧ w = w' := by
  by_cases a : 0 ≤ n <;> by_cases b : n ≤ 292193
  all_goals
    go_enter Try.func38, Try.ntmps38
    go_wp2
    go_ret
    exact ⟨by simp [*], rfl⟩

set_option maxHeartbeats 400000 in
theorem tw_clo (g : Nat) (s s' : ByteArray) (n' : Int) (w : World) (hc : w.cell? ⟨g, 0, none⟩ = some (.string s)) (hg : g < w.heap.size) :
    Calls Try.prog 84 #[.agg #[.string s', .int .i64 n'], .pointer (some ⟨g, 0, none⟩)] w fun e w' => e = .returned (.bool (decide (s' = s))) ∧ Mor w w' := by
  go_enter Try.func84, Try.ntmps84
  go_wp2
  go_ret
  exact ⟨by simp [str_eq], by repeat (first | exact Mor.refl _ | apply Mor.alloc | apply Mor.more | apply Mor.drewN | apply Mor.drew)⟩

/-- a closure that says p of the pairs of xs, and writes nothing of what was there -/
def SaysL (w : World) (g : Nat) (cb : Array Value) (xs : List Ln) (p : Nat → Bool) : Prop :=
  ∀ (i : Nat) (w1 : World), i < xs.length → Mor w w1 → Calls Try.prog g (#[.agg #[.string (cd xs i), .int .i64 (am xs i)]] ++ cb) w1 fun e w' => e = .returned (.bool (p i)) ∧ Mor w1 w'
def IndexPost (w : World) (n : Nat) (p : Nat → Bool) (e : Ending) (w' : World) : Prop :=
  (∃ j : Nat, j < n ∧ p j = true ∧ e = .returned (.int .i64 j) ∧ Mor w w') ∨ ((∀ j, j < n → p j = false) ∧ e = .returned (.int .i64 (-1)) ∧ Mor w w')

set_option maxHeartbeats 1600000 in
theorem index_ln (g : Nat) (cb : Array Value) (A : Option Addr) (n cap : Nat) (xs : List Ln) (p : Nat → Bool) (w : World) (eg : ∀ args w, (callFunc g args).run Try.prog w = .ok (.enter g args) w) (hr : Si w A xs) (hn : n ≤ xs.length) (hl : n ≤ 1000) (hf : SaysL w g cb xs p) :
    Calls Try.prog 85 #[.slice A n cap, .func (.func g) #[] cb] w (IndexPost w n p) := by
  have HF := Lib.hid hf
  have HR := Lib.hid hr
  have HN := Lib.hid hn
  clear hf hr hn
  go_enter Try.func85, Try.ntmps85
  go_wp2
  go_loopw [8] (fun i wr => ∃ k : Nat, k ≤ n ∧ i = .int .i64 k ∧ Hid (∀ j, j < k → p j = false) ∧ Hid (Mor w wr)) (fun i _ => n - (intOf i).toNat)
  case atStart => exact ⟨0, Nat.zero_le _, rfl, Lib.hid (fun j hj => absurd hj (by omega)), Lib.hid (Mor.refl _)⟩
  case round =>
    obtain ⟨k, hk, rfl, HA, HM⟩ := hrel
    by_cases hlt : k < n
    · have hki : (k : Int) < (n : Int) := by omega
      have hk0 : (0 : Int) ≤ (k : Int) := by omega
      obtain ⟨x, hA, hxb, c1, c2⟩ := (HR.out.mor HM.out).at_ k (by have := HN.out; omega)
      subst hA
      have hc := HF.out k wr (by have := HN.out; omega) HM.out
      generalize cd xs k = s at *
      generalize am xs k = a at *
      cases hp : p k <;> rw [hp] at hc
      · have HG := Lib.hid (show ∀ j, j < k + 1 → p j = false from fun j hj => by
          by_cases e : j = k
          · subst e; exact hp
          · exact HA.out j (by omega))
        clear hp
        go_wp2_with (go_at_fn g; refine hc.mono ?_; rintro e w' ⟨rfl, hmw⟩)
        have HM' := Lib.hid (Mor.trans' HM.out hmw)
        clear hmw
        go_roundw
        case rel => exact ⟨k + 1, by omega, by go_num, HG, HM'⟩
        case measure => simp [intOf]; omega
      · have HP := Lib.hid hp
        clear hp
        go_wp2_with (go_at_fn g; refine hc.mono ?_; rintro e w' ⟨rfl, hmw⟩)
        have HM' := Lib.hid (Mor.trans' HM.out hmw)
        clear hmw
        go_ret
        exact .inl ⟨k, hlt, HP.out, rfl, HM'.out⟩
    · obtain rfl : k = n := by omega
      go_wp2
      go_ret
      exact .inr ⟨HA.out, rfl, HM.out⟩

set_option maxHeartbeats 800000 in
theorem contains_ln (g : Nat) (cb : Array Value) (A : Option Addr) (n cap : Nat) (xs : List Ln) (p : Nat → Bool) (w : World) (eg : ∀ args w, (callFunc g args).run Try.prog w = .ok (.enter g args) w) (hr : Si w A xs) (hn : n ≤ xs.length) (hl : n ≤ 1000) (hf : SaysL w g cb xs p) :
    Calls Try.prog 66 #[.slice A n cap, .func (.func g) #[] cb] w fun e w' => e = .returned (.bool ((List.range n).any p)) ∧ Mor w w' := by
  have HI := Lib.hid (index_ln g cb A n cap xs p w eg hr hn hl hf)
  clear hr hn hf
  go_enter Try.func66, Try.ntmps66
  go_wp2_with fail
  refine HI.out.mono ?_
  rintro e w1 (⟨j, hj, hp, rfl, hm⟩ | ⟨hp, rfl, hm⟩)
  · have HP := Lib.hid (show (List.range n).any p = true from List.any_eq_true.2 ⟨j, List.mem_range.2 hj, hp⟩)
    have HM := Lib.hid hm
    clear hp hm
    go_wp2_with fail
    go_ret
    exact ⟨by rw [HP.out] <;> simp, HM.out⟩
  · have HP := Lib.hid (show (List.range n).any p = false from List.any_eq_false.2 fun j hj => by simp [hp j (List.mem_range.1 hj)])
    have HM := Lib.hid hm
    clear hp hm
    go_wp2_with fail
    go_ret
    exact ⟨by rw [HP.out] <;> rfl, HM.out⟩

end Go.Proofs.Ytpgefclnplmlkaa
