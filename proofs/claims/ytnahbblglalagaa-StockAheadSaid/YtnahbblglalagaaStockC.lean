/- The walk of stock.Fifo. -/
import Derived.Test.YtnahbblglalagaaStockB
import Derived.Test.YtnahbblglalagaaOnB
import Derived.Laws.AppendOwn
import Derived.WalkSpells
namespace Go.Proofs.Ytnahbblglalagaa
open Go.ChangeShapes Go.WideShapes Go.ChangeAt Go.RowKit Stb
set_option linter.unusedVariables false

theorem info_lot : (Try.prog.info? 25).map (fun i => (i.zero, i.size, i.bytes)) = some (some (.agg #[.int .i64 0, .int .i64 0]), 2, 16) := by kernel_rfl
theorem ge_snoc (xs : List Pr) (p : Pr) (i : Nat) (h : i < xs.length) : ge (xs ++ [p]) i = ge xs i := by
  unfold ge; rw [List.getD_eq_getElem?_getD, List.getElem?_append_left h, ← List.getD_eq_getElem?_getD]
theorem ge_snoc' (xs : List Pr) (p : Pr) : ge (xs ++ [p]) xs.length = p := by
  unfold ge; rw [List.getD_eq_getElem?_getD, List.getElem?_append_right (Nat.le_refl _), Nat.sub_self]; rfl
theorem Sh.cell {w : World} {base : Nat} {v : Value} {xs : List Pr} (h : Sh w base v xs) (hn : 0 < xs.length) : ∃ g o cap, v = .slice (some ⟨g, o, none⟩) xs.length cap ∧ base ≤ g ∧ ∀ j u, (xs.flatMap fun p => [Value.int .i64 p.1, Value.int .i64 p.2])[j]? = some u → w.cell? ((⟨g, o, none⟩ : Addr).add j) = some u := by
  rcases h with ⟨_, rfl⟩ | ⟨g, o, cap, cur, rfl, hb, hg, hl, hm, hs, hc⟩
  · simp at hn
  · refine ⟨g, o, cap, rfl, hb, fun j u hu => ?_⟩
    have hB : Blk w g 25 cur := hg
    have hfl : (xs.flatMap fun p => [Value.int .i64 p.1, Value.int .i64 p.2]).length = xs.length * 2 := flat_len (fun p : Pr => [Value.int .i64 p.1, Value.int .i64 p.2]) 2 (fun _ => rfl) xs
    have hj : j < xs.length * 2 := by
      rcases Nat.lt_or_ge j (xs.flatMap fun p => [Value.int .i64 p.1, Value.int .i64 p.2]).length with h | h
      · omega
      · rw [List.getElem?_eq_none h] at hu; cases hu
    have hk : j / 2 < xs.length := by omega
    have hgt := flat_get (fun p : Pr => [Value.int .i64 p.1, Value.int .i64 p.2]) 2 (fun _ => rfl) xs (j / 2) (j % 2) hk (by omega) (.int .i64 0)
    rw [show j / 2 * 2 + j % 2 = j by omega] at hgt
    unfold flat at hgt
    rw [List.getD_eq_getElem?_getD, hu] at hgt
    have e : xs[j / 2] = ge xs (j / 2) := by have := ge_some hk; rw [List.getElem?_eq_getElem hk] at this; injection this
    rw [e] at hgt
    obtain ⟨c1, c2⟩ := hc (j / 2) hk
    rw [adds, hB.cell]
    rcases Nat.mod_two_eq_zero_or_one j with hr | hr
    · rw [hr] at hgt
      rw [show o + j = o + j / 2 * 2 by omega, c1]
      simpa using hgt.symm
    · rw [hr] at hgt
      rw [show o + j = o + j / 2 * 2 + 1 by omega, c2]
      simpa using hgt.symm
theorem Tk.alloc {w : World} {bS base : Nat} (o : Obj) : Tk w (w.alloc o) bS base :=
  ⟨rfl, rfl, rfl, by simp, fun k hk _ _ => heap_alloc_old w o hk, fun k cur fz hk _ h => .inr ⟨cur, fz, by rw [heap_alloc_old w o hk] at h; exact h⟩⟩
theorem Tk.drewAlloc {w : World} {bS base : Nat} (o : Obj) : Tk w (w.drew.alloc o) bS base :=
  ⟨rfl, rfl, rfl, by simp, fun k hk _ _ => heap_alloc_old w.drew o hk, fun k cur fz hk _ h => .inr ⟨cur, fz, by rw [heap_alloc_old w.drew o hk] at h; exact h⟩⟩
theorem Sh.same {w w' : World} {base : Nat} {v : Value} {xs : List Pr} (h : Sh w base v xs) (hw : ∀ g cur, base ≤ g → w.heap[g]? = some (.cells cur 25 (0, 0)) → w'.heap[g]? = w.heap[g]?) : Sh w' base v xs := by
  rcases h with h | ⟨g, o, cap, cur, hv, hb, hg, rest⟩
  · exact .inl h
  · exact .inr ⟨g, o, cap, cur, hv, hb, (hw g cur hb hg).trans hg, rest⟩
theorem Sh.alloc {w : World} {base : Nat} {v : Value} {xs : List Pr} (h : Sh w base v xs) (o : Obj) : Sh (w.alloc o) base v xs :=
  h.same fun g cur _ hg => heap_alloc_old w o (by
    rcases Nat.lt_or_ge g w.heap.size with c | c
    · exact c
    · rw [Array.getElem?_eq_none c] at hg; cases hg)
/-- append to the shelf -/
theorem run_append_sh (w : World) (base : Nat) (v : Value) (xs : List Pr) (h : Sh w base v xs) (t ty : TypeId) (ht : Try.prog.underlying t = some (.slice 25)) (ad : Addr) (c : Nat) (p : Pr)
    (hnews : ∀ j u, [Value.int .i64 p.1, Value.int .i64 p.2][j]? = some u → w.cell? (ad.add j) = some u) (hb : base ≤ w.heap.size) (hl : xs.length ≤ 1000) :
    ∃ v' w', (Builtin.append_ #[t, t] ty #[v, .slice (some ad) 1 c]).run Try.prog w = .ok v' w' ∧ Sh w' base v' (xs ++ [p]) ∧ ∀ bS, Tk w w' bS base := by
  obtain ⟨i0, hi, hz0, hz1, hz2⟩ := info_parts info_lot
  have h63 : ((1 : Nat) : Int) ≤ 9223372036854775807 := by omega
  rcases h with ⟨rfl, rfl⟩ | ⟨g, o, cap, cur, rfl, hbg, hg, hlc, hm, hs, hc⟩
  · have hr := run_append_nil (P := Try.prog) w t ty 25 i0 _ ht hi hz0 ad 1 c [.int .i64 p.1, .int .i64 p.2] (by rw [hz1]; rfl) hnews (by omega) h63 (by rw [hz2]; omega)
    refine ⟨_, _, hr, .inr ⟨w.heap.size, 0, _, _, rfl, hb, heap_alloc_new w.drew _, grownCap_ge w 1 0 _, grownCap_le_maxLen w 1 0 _ (by unfold maxLen; omega), ?_, fun i hi => ?_⟩, fun bS => Tk.drewAlloc _⟩
    · have := grownCap_ge w 1 0 25
      simp only [Array.size_append, List.size_toArray, size_zeroCells]
      simp [Value.cells]
      omega
    · obtain rfl : i = 0 := by simp at hi; omega
      simp
      refine ⟨?_, ?_⟩
      · first | rfl | (rw [Array.getElem?_append_left (by simp)]; rfl)
      · first | rfl | (rw [Array.getElem?_append_left (by simp)]; rfl)
  · have hB : Blk w g 25 cur := hg
    by_cases hroom : xs.length + 1 ≤ cap
    · have hr := run_append_room_cells (P := Try.prog) w t ty 25 i0 ht hi g o xs.length cap ad 1 c [.int .i64 p.1, .int .i64 p.2] (by rw [hz1]; rfl) hnews (by intro u hu; simp at hu; rcases hu with rfl | rfl <;> rfl) hroom
        (fun j hj => by
          rw [hB.cell, hz1, Array.getElem?_eq_getElem (by simp at hj; omega)]; rfl)
        (fun j hj => hB.frozen _)
      refine ⟨_, _, hr, .inr ⟨g, o, cap, _, by rw [List.length_append]; rfl, hbg, ((hB.set_ _ _).set_ _ _), by rw [List.length_append]; exact hroom, hm, by rw [Array.size_setIfInBounds, Array.size_setIfInBounds]; exact hs, fun i hi' => ?_⟩, fun bS => ?_⟩
      · rw [List.length_append] at hi'
        simp at hi'
        rw [hz1, Array.getElem?_setIfInBounds, Array.getElem?_setIfInBounds, Array.getElem?_setIfInBounds, Array.getElem?_setIfInBounds, Array.size_setIfInBounds]
        by_cases e : i = xs.length
        · subst e
          rw [ge_snoc', if_neg (by omega), if_pos rfl, if_pos (by omega), if_pos rfl, if_pos (by omega)]
          exact ⟨rfl, rfl⟩
        · rw [ge_snoc _ _ _ (by omega), if_neg (by omega), if_neg (by omega), if_neg (by omega), if_neg (by omega)]
          exact hc i (by omega)
      · have h1 := (Tk.refl w bS base).setLot (o := o + xs.length * i0.size) (u := .int .i64 p.1) hg hbg
        exact h1.setLot (hB.set_ _ _) hbg
    · have hsm : Sh w base (.slice (some ⟨g, o, none⟩) xs.length cap) xs := .inr ⟨g, o, cap, cur, rfl, hbg, hg, hlc, hm, hs, hc⟩
      have hold : ∀ j u, (xs.flatMap fun p => [Value.int .i64 p.1, Value.int .i64 p.2])[j]? = some u → w.cell? ((⟨g, o, none⟩ : Addr).add j) = some u := by
        by_cases hx : 0 < xs.length
        · obtain ⟨g', o', cap', hv, _, hcell⟩ := hsm.cell hx
          injection hv with hv _ _
          injection hv with hv
          injection hv with e1 e2 _
          subst e1 e2
          exact hcell
        · intro j u hu
          have : xs = [] := List.eq_nil_of_length_eq_zero (by omega)
          subst this
          simp at hu
      have hfl : (xs.flatMap fun p => [Value.int .i64 p.1, Value.int .i64 p.2]).length = xs.length * 2 := flat_len (fun p : Pr => [Value.int .i64 p.1, Value.int .i64 p.2]) 2 (fun _ => rfl) xs
      have hr := run_append_grow (P := Try.prog) w t ty 25 i0 _ ht hi hz0 ⟨g, o, none⟩ xs.length cap (xs.flatMap fun p => [Value.int .i64 p.1, Value.int .i64 p.2]) (by rw [hz1]; exact hfl) hold ad 1 c [.int .i64 p.1, .int .i64 p.2] (by rw [hz1]; rfl) hnews (by omega) (by omega) (growslice_fits (by omega) (by rw [hz2]; omega))
      have hge := grownCap_ge w (xs.length + 1) cap 25
      refine ⟨_, _, hr, .inr ⟨w.heap.size, 0, _, _, by rw [List.length_append]; rfl, hb, heap_alloc_new w.drew _, by rw [List.length_append]; exact hge, grownCap_le_maxLen w _ _ _ (by unfold maxLen; omega), ?_, fun i hi' => ?_⟩, fun bS => Tk.drewAlloc _⟩
      · simp only [Array.size_append, List.size_toArray, size_zeroCells, hfl]
        simp [Value.cells]
        omega
      · rw [List.length_append] at hi'
        simp at hi'
        have hcat : ∀ (j : Nat) (u : Value), ((xs ++ [p]).flatMap fun p => [Value.int .i64 p.1, Value.int .i64 p.2])[j]? = some u → ((xs.flatMap fun p => [Value.int .i64 p.1, Value.int .i64 p.2]).toArray ++ [Value.int .i64 p.1, Value.int .i64 p.2].toArray ++ Builtin.zeroCells (Value.agg #[.int .i64 0, .int .i64 0]).cells (grownCap w (xs.length + 1) cap 25 - (xs.length + 1)))[j]? = some u := by
          intro j u hu
          have hlt : j < ((xs ++ [p]).flatMap fun p => [Value.int .i64 p.1, Value.int .i64 p.2]).length := by
            rcases Nat.lt_or_ge j ((xs ++ [p]).flatMap fun p => [Value.int .i64 p.1, Value.int .i64 p.2]).length with h | h
            · exact h
            · rw [List.getElem?_eq_none h] at hu; cases hu
          rw [List.flatMap_append] at hu hlt
          rw [Array.getElem?_append_left (by simpa using hlt), List.append_toArray, List.getElem?_toArray]
          exact hu
        have hgt := fun r hr => flat_get (fun p : Pr => [Value.int .i64 p.1, Value.int .i64 p.2]) 2 (fun _ => rfl) (xs ++ [p]) i r (by simp; omega) hr (.int .i64 0)
        have e : (xs ++ [p])[i]'(by simp; omega) = ge (xs ++ [p]) i := by have := ge_some (xs := xs ++ [p]) (i := i) (by simp; omega); rw [List.getElem?_eq_getElem (by simp; omega)] at this; injection this
        have hflx : ((xs ++ [p]).flatMap fun p => [Value.int .i64 p.1, Value.int .i64 p.2]).length = (xs ++ [p]).length * 2 := flat_len (fun p : Pr => [Value.int .i64 p.1, Value.int .i64 p.2]) 2 (fun _ => rfl) (xs ++ [p])
        have hget : ∀ r, r < 2 → ((xs ++ [p]).flatMap fun p => [Value.int .i64 p.1, Value.int .i64 p.2])[i * 2 + r]? = some ([Value.int .i64 (ge (xs ++ [p]) i).1, Value.int .i64 (ge (xs ++ [p]) i).2].getD r (.int .i64 0)) := by
          intro r hr
          have h1 := hgt r hr
          unfold flat at h1
          rw [e, List.getD_eq_getElem?_getD, List.getElem?_eq_getElem (by rw [hflx]; simp; omega), Option.getD_some] at h1
          rw [List.getElem?_eq_getElem (by rw [hflx]; simp; omega), h1]
        rw [Nat.zero_add]
        exact ⟨hcat _ _ (hget 0 (by omega)), hcat _ _ (hget 1 (by omega))⟩
theorem wpList_append_sh {w : World} {ops : Array Oper} {rest : List Oper} {o : Oper} {a : Act} {Q : Exit → Act → World → Prop} (hgd : o.guard = none) (s x : Operand) (t : TypeId)
    (ho : o.op = .call { callee := .builtin .append, args := #[s, x], argTypes := #[t, t] }) (base : Nat) (v : Value) (xs : List Pr) (h : Sh w base v xs) (ht : Try.prog.underlying t = some (.slice 25)) (ad : Addr) (c : Nat) (p : Pr)
    (hs : a.eval s = v) (hx : a.eval x = .slice (some ad) 1 c) (hnews : ∀ j u, [Value.int .i64 p.1, Value.int .i64 p.2][j]? = some u → w.cell? (ad.add j) = some u) (hb : base ≤ w.heap.size) (hl : xs.length ≤ 1000)
    (hk : ∀ v' w', Sh w' base v' (xs ++ [p]) → (∀ bS, Tk w w' bS base) → wpList Try.prog ops Q rest (a.put o.dst v') w') : wpList Try.prog ops Q (o :: rest) a w :=
  wpList_plain hgd fun _ hK => by
    obtain ⟨v', w', hr, h2, h3⟩ := run_append_sh w base v xs h t o.type ht ad c p hnews hb hl
    unfold Oper.wp execOp
    simp only [ho, resolve, invoke, builtin, Sem.run_bind, Sem.run_pure, Result.andThen_ok, List.map_toArray, List.map_cons, List.map_nil, hs, hx, hr]
    exact hK _ _ (hk v' w' h2 h3)

end Go.Proofs.Ytnahbblglalagaa
