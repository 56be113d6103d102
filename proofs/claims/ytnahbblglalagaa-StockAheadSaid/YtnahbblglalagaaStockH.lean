/- What the laws of stock share: rows that were made, read; Equal at numbers and at lots. -/
import Derived.Test.YtnahbblglalagaaStockG
import Derived.Test.YtnahbblglalagaaWithinA
namespace Go.Proofs.Ytnahbblglalagaa
open Go.ChangeShapes Go.WideShapes Go.ChangeAt Go.RowKit Stb
set_option linter.unusedVariables false

theorem Rd.pl {w : World} {A : Option Addr} {xs : List Pr} (h : Rd w A (flat lc xs)) : Pi w A xs := by
  by_cases h0 : xs = []
  · exact .inl h0
  · have hl : 0 < xs.length := List.length_pos_iff.2 h0
    obtain ⟨b, o, rfl, hb, _⟩ := h.field 2 (fun _ => rfl) 0 hl (by omega)
    refine .inr ⟨_, rfl, hb, fun i hi => ?_⟩
    obtain ⟨b', o', e, _, hc⟩ := h.field 2 (fun _ => rfl) i hi (by omega)
    injection e with e
    injection e with e1 e2
    subst e1 e2
    rw [adds]
    refine ⟨?_, ?_⟩
    · have := hc 0 (by omega)
      rw [Nat.add_zero] at this
      rw [this]
      unfold px
      rw [show xs.getD i (0, 0) = xs[i] by rw [List.getD_eq_getElem?_getD, List.getElem?_eq_getElem hi]; rfl]; rfl
    · have := hc 1 (by omega)
      rw [this]
      unfold py
      rw [show xs.getD i (0, 0) = xs[i] by rw [List.getD_eq_getElem?_getD, List.getElem?_eq_getElem hi]; rfl]; rfl
theorem own_pl {w : World} {base n c : Nat} {T : TypeId} {A : Option Addr} {xs : List Pr} (h : w.ownsRow base T 2 (.slice A n c) n (flat lc xs)) : Pi w A xs := (Rd.own h).pl
theorem pl_new {w : World} {b : Nat} {T : TypeId} {C : Array Value} (xs : List Pr) (hb : b = w.heap.size) (hC : C = (flat lc xs).toArray) : Pi (w.alloc (.cells C T)) (some ⟨b, 0, none⟩) xs := (Rd.new _ hb hC).pl
theorem own_mor {w w' : World} {B s n : Nat} {T : TypeId} {u : Value} {ys : List Value} (h : w.ownsRow B T s u n ys) (hm : Mor w w') : w'.ownsRow B T s u n ys := by
  refine ⟨h.1, ?_⟩
  rcases h.2 with hn | ⟨g, cap, cur, rfl, hg, hh, rest⟩
  · exact .inl hn
  · exact .inr ⟨g, cap, cur, rfl, hg, (hm.below.block g (Array.getElem?_eq_some_iff.1 hh).1).trans hh, rest⟩
theorem own_lit {w : World} {b n : Nat} {T : TypeId} {C : Array Value} (xs : List Pr) (hb : b = w.heap.size) (hC : C = (flat lc xs).toArray) (hn : xs.length = n) (hm : n ≤ 1000) : (w.alloc (.cells C T)).ownsRow w.heap.size T 2 (.slice (some ⟨b, 0, none⟩) n n) n (flat lc xs) := by
  subst hb hC
  have hl : (flat lc xs).length = n * 2 := by rw [flat_len lc 2 (fun _ => rfl), hn]
  refine ⟨hl, .inr ⟨_, n, _, rfl, Nat.le_refl _, heap_alloc_new w _, Nat.le_refl _, by unfold maxLen; omega, by simpa using hl, ?_⟩⟩
  rw [List.take_of_length_le (by simp [hl])]

set_option maxHeartbeats 1600000 in
theorem equal_ri (A B : Option Addr) (n cap cap' : Nat) (xs : List Int) (w : World) (hr : Ri w A xs) (hs : Ri w B xs) (hn : xs.length = n) (hl : n ≤ 1000) :
    Calls Try.prog 7 #[.slice A n cap, .slice B n cap'] w fun e w' => e = .returned (.bool true) ∧ Mor w w' := by
  have HR := Lib.hid hr
  have HS := Lib.hid hs
  have HN := Lib.hid hn
  clear hr hs hn
  go_enter Try.func7, Try.ntmps7
  go_wp2
  go_loopw [13] (fun i wr => ∃ k : Nat, k ≤ n ∧ i = .int .i64 k ∧ Hid (Mor w wr)) (fun i _ => n - (intOf i).toNat)
  case atStart => exact ⟨0, Nat.zero_le _, rfl, Lib.hid (Mor.refl _)⟩
  case round =>
    obtain ⟨k, hk, rfl, HM⟩ := hrel
    by_cases hlt : k < n
    · have hki : (k : Int) < (n : Int) := by omega
      have hk0 : (0 : Int) ≤ (k : Int) := by omega
      obtain ⟨x, hA, hxb, c1⟩ := (HR.out.mor HM.out).at_ k (by rw [HN.out]; exact hlt)
      obtain ⟨y, hB, hyb, d1⟩ := (HS.out.mor HM.out).at_ k (by rw [HN.out]; exact hlt)
      subst hA hB
      generalize xs.getD k 0 = u at *
      go_wp2
      go_quiet (fail)
      go_wp2
      go_roundw
      case rel => exact ⟨k + 1, by omega, by go_num, Lib.hid (by repeat (first | exact HM.out | apply Mor.alloc | apply Mor.more | apply Mor.drewN | apply Mor.drew))⟩
      case measure => simp [intOf]; omega
    · obtain rfl : k = n := by omega
      go_wp2
      go_ret
      exact ⟨rfl, HM.out⟩
end Go.Proofs.Ytnahbblglalagaa
