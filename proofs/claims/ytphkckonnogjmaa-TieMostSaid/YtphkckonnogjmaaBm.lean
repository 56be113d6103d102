/- A map from integers to truth values that the call itself makes: 'Bm w b n f': block b is such a map, of at most n entries; at k it says f k. -/
import Derived.Test.YtphkckonnogjmaaOwnPr
import Derived.Maps.Own
import Derived.Maps.Views
import Derived.Maps.OwnSet
namespace Go.Proofs.Ytphkckonnogjmaa
open Go.ChangeShapes Go.WideShapes Go.ChangeAt Go.RowKit Stb
open Go.Maps (Keyed IsMap)
set_option linter.unusedVariables false

theorem law_int : Keyed Try.prog 3 := Maps.int_keyed Try.underlying3
theorem zero_bool (w : World) : (zeroValue 4).run Try.prog w = .ok (.bool false) w := by kernel_rfl
theorem plainElem_bool_inv {P : Program} {e : TypeId} (he : P.underlying e = some .bool) {v : Value} {z : DataW Unit × List MemPlace} (h : plainElem P e v = some z) : ∃ x, v = .bool x ∧ z = (.lit (.bool x), []) := by
  unfold plainElem at h
  rw [he] at h
  cases v <;> simp at h
  exact ⟨_, rfl, h.symm⟩
def Bm (w : World) (b n : Nat) (f : Int → Bool) : Prop :=
  ∃ D : DataW Unit, w.ownsMap Try.prog 3 (plainElem Try.prog 4) b n D ∧ ∀ k : Int, D.atKey (.int .i64 k) (.lit (.bool false)) = .lit (.bool (f k))
theorem Bm.made (w : World) : Bm (w.alloc (.map #[] 0)) w.heap.size 0 (fun _ => false) :=
  ⟨.map [], World.ownsMap_made _ _ _ _, fun k => rfl⟩
theorem Bm.drewN {w : World} {b n m : Nat} {f : Int → Bool} (h : Bm w b n f) : Bm (w.drewN m) b n f := h
theorem Bm.drew {w : World} {b n : Nat} {f : Int → Bool} (h : Bm w b n f) : Bm w.drew b n f := h
theorem Bm.mono {w : World} {b n m : Nat} {f : Int → Bool} (h : Bm w b n f) (hm : n ≤ m) : Bm w b m f := by
  obtain ⟨D, h1, h2⟩ := h
  exact ⟨D, h1.mono hm, h2⟩
theorem Bm.alloc {w : World} {b n : Nat} {f : Int → Bool} (h : Bm w b n f) (o : Obj) : Bm (w.alloc o) b n f := by
  obtain ⟨D, h1, h2⟩ := h
  exact ⟨D, h1.alloc o, h2⟩
theorem Bm.lt {w : World} {b n : Nat} {f : Int → Bool} (h : Bm w b n f) : b < w.heap.size := by
  obtain ⟨D, h1, h2⟩ := h
  exact h1.lt
theorem Bm.look {w : World} {b n : Nat} {f : Int → Bool} (h : Bm w b n f) (k : Int) (hk : (Lit.int .i64 k).wf = true) : (Instr.lookup 45 (.map (some b)) (.int .i64 k) false).run Try.prog w = .ok (.bool (f k)) w := by
  obtain ⟨D, h1, h2⟩ := h
  obtain ⟨v, ps, hrun, hv⟩ := h1.lookup law_int Try.underlying45 (zero_bool w) (plainElem_bool Try.underlying4 false) (Maps.keyOf_int_mk Try.underlying3 hk)
  obtain ⟨x, rfl, e⟩ := plainElem_bool_inv Try.underlying4 hv
  rw [h2 k] at e
  simp only [Prod.mk.injEq, DataW.lit.injEq, Lit.bool.injEq] at e
  rw [hrun, e.1]
theorem Bm.put {w : World} {b n : Nat} {f : Int → Bool} (h : Bm w b n f) (hn : n < maxLen) (k : Int) (hk : (Lit.int .i64 k).wf = true) (v : Bool) :
    ∃ w', (Instr.mapUpdate 45 (.map (some b)) (.int .i64 k) (.bool v)).run Try.prog w = .ok () w' ∧ Bm w' b (n + 1) (fun x => if x = k then v else f x) ∧ w.grownBy w' (some b) := by
  obtain ⟨D, h1, h2⟩ := h
  obtain ⟨w', hrun, h3, h4⟩ := h1.update law_int Try.underlying45 hn (Maps.keyOf_int_mk Try.underlying3 hk) (plainElem_bool Try.underlying4 v)
  refine ⟨w', hrun, ⟨_, h3, fun x => ?_⟩, h4⟩
  show _ = DataW.lit (Lit.bool (if x = k then v else f x))
  by_cases e : x = k
  · subst e
    rw [Maps.atKey_put_same h1.isMap (by trivial), if_pos rfl]
  · rw [Maps.atKey_put_other (by intro h; injection h with _ h; exact e h), if_neg e, h2]

/-- a store into it, at the operation -/
theorem wpList_put_bm (w : World) {ops : Array Oper} {rest : List Oper} {o : Oper} {a : Act} {Q : Exit → Act → World → Prop} (hg : o.guard = none) (m x v : Operand) (hop : o.op = Op.mapUpdate 45 m x v) (b n : Nat) (f : Int → Bool)
    (hm : a.eval m = .map (some b)) (hb : Bm w b n f) (hn : n < maxLen) (k : Int) (u : Bool) (hx : a.eval x = .int .i64 k) (hv : a.eval v = .bool u) (hk : (Lit.int .i64 k).wf = true)
    (hK : ∀ w', Bm w' b (n + 1) (fun x => if x = k then u else f x) → w.grownBy w' (some b) → wpList Try.prog ops Q rest (a.put o.dst undef) w') : wpList Try.prog ops Q (o :: rest) a w := by
  obtain ⟨D, h1, h2⟩ := hb
  refine wpList_mapUpdate_own w hg m x v 45 hop 3 4 law_int Try.underlying45 _ b n D hm h1 hn _ _ _ hx hv (Maps.keyOf_int_mk Try.underlying3 hk) _ [] (plainElem_bool Try.underlying4 u) fun w' h3 h4 => hK w' ⟨_, h3, fun x => ?_⟩ h4
  show _ = DataW.lit (Lit.bool (if x = k then u else f x))
  by_cases e : x = k
  · subst e
    rw [Maps.atKey_put_same h1.isMap (by trivial), if_pos rfl]
  · rw [Maps.atKey_put_other (by intro h; injection h with _ h; exact e h), if_neg e, h2]

end Go.Proofs.Ytphkckonnogjmaa
