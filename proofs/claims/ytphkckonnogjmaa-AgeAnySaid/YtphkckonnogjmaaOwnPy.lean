/- Slices of items that the call itself makes. -/
import Derived.Test.YtphkckonnogjmaaPairs
import Derived.Test.YtphkckonnogjmaaMem
import Derived.Test.YtphkckonnogjmaaInts
namespace Go.Proofs.Ytphkckonnogjmaa
open Go.ChangeShapes Go.WideShapes Go.ChangeAt Go.RowKit
set_option linter.unusedVariables false

theorem info_item : (Try.prog.info? 28).map (fun i => (i.zero, i.size, i.bytes)) = some (some (.agg #[.int .i64 0, .int .i64 0]), 2, 16) := by kernel_rfl
/-- the two cells of an item -/
def pp (p : Pr) : List Value := [.int .i64 p.1, .int .i64 p.2]
theorem Rd.pi {w : World} {A : Option Addr} {xs : List Pr} (h : Rd w A (flat pp xs)) : Pi w A xs := by
  by_cases h0 : xs = []
  · exact .inl h0
  · have hl : 0 < xs.length := List.length_pos_iff.2 h0
    obtain ⟨b, o, rfl, hb, _⟩ := h.field 2 (fun _ => rfl) 0 hl (by omega)
    refine .inr ⟨_, rfl, hb, fun i hi => ?_⟩
    obtain ⟨b', o', e, _, hc⟩ := h.field 2 (fun _ => rfl) i hi (by omega)
    injection e with e
    injection e with e1 e2
    subst e1 e2
    rw [adds]
    refine ⟨?_, ?_⟩
    · have := hc 0 (by omega)
      rw [Nat.add_zero] at this
      rw [this]
      unfold px
      rw [show xs.getD i (0, 0) = xs[i] by rw [List.getD_eq_getElem?_getD, List.getElem?_eq_getElem hi]; rfl]; rfl
    · have := hc 1 (by omega)
      rw [this]
      unfold py
      rw [show xs.getD i (0, 0) = xs[i] by rw [List.getD_eq_getElem?_getD, List.getElem?_eq_getElem hi]; rfl]; rfl
theorem own_pi {w : World} {base n c : Nat} {T : TypeId} {A : Option Addr} {xs : List Pr} (h : w.ownsRow base T 2 (.slice A n c) n (flat pp xs)) : Pi w A xs := (Rd.own h).pi
theorem pi_new {w : World} {b : Nat} {T : TypeId} {C : Array Value} (xs : List Pr) (hb : b = w.heap.size) (hC : C = (flat pp xs).toArray) : Pi (w.alloc (.cells C T)) (some ⟨b, 0, none⟩) xs := (Rd.new _ hb hC).pi
/-- what was appended to its own row, behind three blocks, turned nothing of what was there -/
theorem own_step3 {w wr w1 : World} {T : TypeId} {s : Nat} {v : Value} {n : Nat} {xs : List Value} {o1 o2 o3 : Obj} (hown : wr.ownsRow w.heap.size T s v n xs) (hnx : Below w.heap.size w wr)
    (hgrow : (((wr.alloc o1).alloc o2).alloc o3).grownBy w1 v.ownBlock) : Below w.heap.size w w1 := by
  have h1 : Below w.heap.size w ((wr.alloc o1).alloc o2) := by
    have := hnx.alloc hnx.size o1
    exact this.alloc this.size o2
  exact own_stepS (m := 0) ((hown.alloc _).alloc _) h1 hgrow

theorem own_step2 {w wr w1 : World} {T : TypeId} {s : Nat} {v : Value} {n : Nat} {xs : List Value} {o1 o2 : Obj} (hown : wr.ownsRow w.heap.size T s v n xs) (hnx : Below w.heap.size w wr)
    (hgrow : ((wr.alloc o1).alloc o2).grownBy w1 v.ownBlock) : Below w.heap.size w w1 :=
  own_stepS (m := 0) (hown.alloc _) (hnx.alloc hnx.size o1) hgrow

end Go.Proofs.Ytphkckonnogjmaa
