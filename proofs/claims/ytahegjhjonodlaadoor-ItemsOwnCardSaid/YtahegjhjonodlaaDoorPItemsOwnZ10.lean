/- The walk of stock.Fifo. -/
import Derived.Test.YtahegjhjonodlaaDoorPItemsOwnZ1
import Derived.Test.YtahegjhjonodlaaDoorPItemsOwnZ2
import Derived.Test.YtahegjhjonodlaaDoorPItemsOwnZ3
import Derived.Test.YtahegjhjonodlaaDoorPItemsOwnZ4
import Derived.Test.YtahegjhjonodlaaDoorPItemsOwnZ5
import Derived.Test.YtahegjhjonodlaaDoorPItemsOwnZ6
import Derived.Test.YtahegjhjonodlaaDoorPItemsOwnZ7
import Derived.Test.YtahegjhjonodlaaDoorPItemsOwnZ8
import Derived.Test.YtahegjhjonodlaaDoorPItemsOwnZ9
import Derived.Test.YtahegjhjonodlaaDoorRows
import Derived.ArgAppend
import Derived.BigQuiet
import Derived.BigRegion
import Derived.DataElems
import Derived.Deep.OwnRows
import Derived.Deep.QuietTactic
import Derived.Deep.SlicePairs
import Derived.Handy
import Derived.Laws.AppendOwn
import Derived.Lib.Hide
import Derived.OpenShut
import Derived.Outline
import Derived.OwnWalk
import Derived.ProofKit
import Derived.RegionTactic
import Derived.WalkKit
import Derived.WalkSpells
namespace Go.Proofs.YtahegjhjonodlaaDoor
open Go.ChangeShapes Go.WideShapes Go.ChangeAt Go.RowKit Stb
set_option linter.unusedVariables false
set_option maxRecDepth 100000

theorem info_lot : (Tryd.prog.info? 63).map (fun i => (i.zero, i.size, i.bytes)) = some (some (.agg #[.int .i64 0, .int .i64 0]), 2, 16) := by kernel_rfl
theorem ge_snoc (xs : List Pr) (p : Pr) (i : Nat) (h : i < xs.length) : ge (xs ++ [p]) i = ge xs i := by
  unfold ge; rw [List.getD_eq_getElem?_getD, List.getElem?_append_left h, ← List.getD_eq_getElem?_getD]
theorem ge_snoc' (xs : List Pr) (p : Pr) : ge (xs ++ [p]) xs.length = p := by
  unfold ge; rw [List.getD_eq_getElem?_getD, List.getElem?_append_right (Nat.le_refl _), Nat.sub_self]; rfl
theorem Sh.cell {w : World} {base : Nat} {v : Value} {xs : List Pr} (h : Sh w base v xs) (hn : 0 < xs.length) : ∃ g o cap, v = .slice (some ⟨g, o, none⟩) xs.length cap ∧ base ≤ g ∧ ∀ j u, (xs.flatMap fun p => [Value.int .i64 p.1, Value.int .i64 p.2])[j]? = some u → w.cell? ((⟨g, o, none⟩ : Addr).add j) = some u := by
  rcases h with ⟨_, rfl⟩ | ⟨g, o, cap, cur, rfl, hb, hg, hl, hm, hs, hc⟩
  · simp at hn
  · refine ⟨g, o, cap, rfl, hb, fun j u hu => ?_⟩
    have hB : Blk w g 63 cur := hg
    have hfl : (xs.flatMap fun p => [Value.int .i64 p.1, Value.int .i64 p.2]).length = xs.length * 2 := flat_len (fun p : Pr => [Value.int .i64 p.1, Value.int .i64 p.2]) 2 (fun _ => rfl) xs
    have hj : j < xs.length * 2 := by
      rcases Nat.lt_or_ge j (xs.flatMap fun p => [Value.int .i64 p.1, Value.int .i64 p.2]).length with h | h
      · omega
      · rw [List.getElem?_eq_none h] at hu; cases hu
    have hk : j / 2 < xs.length := by omega
    have hgt := flat_get (fun p : Pr => [Value.int .i64 p.1, Value.int .i64 p.2]) 2 (fun _ => rfl) xs (j / 2) (j % 2) hk (by omega) (.int .i64 0)
    rw [show j / 2 * 2 + j % 2 = j by omega] at hgt
    unfold flat at hgt
    rw [List.getD_eq_getElem?_getD, hu] at hgt
    have e : xs[j / 2] = ge xs (j / 2) := by have := ge_some hk; rw [List.getElem?_eq_getElem hk] at this; injection this
    rw [e] at hgt
    obtain ⟨c1, c2⟩ := hc (j / 2) hk
    rw [adds, hB.cell]
    rcases Nat.mod_two_eq_zero_or_one j with hr | hr
    · rw [hr] at hgt
      rw [show o + j = o + j / 2 * 2 by omega, c1]
      simpa using hgt.symm
    · rw [hr] at hgt
      rw [show o + j = o + j / 2 * 2 + 1 by omega, c2]
      simpa using hgt.symm
theorem Tk.alloc {w : World} {bS base : Nat} (o : Obj) : Tk w (w.alloc o) bS base :=
  ⟨rfl, rfl, rfl, by simp, fun k hk _ _ => heap_alloc_old w o hk, fun k cur fz hk _ h => .inr ⟨cur, fz, by rw [heap_alloc_old w o hk] at h; exact h⟩⟩
theorem Tk.drewAlloc {w : World} {bS base : Nat} (o : Obj) : Tk w (w.drew.alloc o) bS base :=
  ⟨rfl, rfl, rfl, by simp, fun k hk _ _ => heap_alloc_old w.drew o hk, fun k cur fz hk _ h => .inr ⟨cur, fz, by rw [heap_alloc_old w.drew o hk] at h; exact h⟩⟩
theorem Sh.same {w w' : World} {base : Nat} {v : Value} {xs : List Pr} (h : Sh w base v xs) (hw : ∀ g cur, base ≤ g → w.heap[g]? = some (.cells cur 63 (0, 0)) → w'.heap[g]? = w.heap[g]?) : Sh w' base v xs := by
  rcases h with h | ⟨g, o, cap, cur, hv, hb, hg, rest⟩
  · exact .inl h
  · exact .inr ⟨g, o, cap, cur, hv, hb, (hw g cur hb hg).trans hg, rest⟩
theorem Sh.alloc {w : World} {base : Nat} {v : Value} {xs : List Pr} (h : Sh w base v xs) (o : Obj) : Sh (w.alloc o) base v xs :=
  h.same fun g cur _ hg => heap_alloc_old w o (by
    rcases Nat.lt_or_ge g w.heap.size with c | c
    · exact c
    · rw [Array.getElem?_eq_none c] at hg; cases hg)
/-- append to the shelf -/
theorem run_append_sh (w : World) (base : Nat) (v : Value) (xs : List Pr) (h : Sh w base v xs) (t ty : TypeId) (ht : Tryd.prog.underlying t = some (.slice 63)) (ad : Addr) (c : Nat) (p : Pr)
    (hnews : ∀ j u, [Value.int .i64 p.1, Value.int .i64 p.2][j]? = some u → w.cell? (ad.add j) = some u) (hb : base ≤ w.heap.size) (hl : xs.length ≤ 1000) :
    ∃ v' w', (Builtin.append_ #[t, t] ty #[v, .slice (some ad) 1 c]).run Tryd.prog w = .ok v' w' ∧ Sh w' base v' (xs ++ [p]) ∧ ∀ bS, Tk w w' bS base := by
  obtain ⟨i0, hi, hz0, hz1, hz2⟩ := info_parts info_lot
  have h63 : ((1 : Nat) : Int) ≤ 9223372036854775807 := by omega
  rcases h with ⟨rfl, rfl⟩ | ⟨g, o, cap, cur, rfl, hbg, hg, hlc, hm, hs, hc⟩
  · have hr := run_append_nil (P := Tryd.prog) w t ty 63 i0 _ ht hi hz0 ad 1 c [.int .i64 p.1, .int .i64 p.2] (by rw [hz1]; rfl) hnews (by omega) h63 (by rw [hz2]; omega)
    refine ⟨_, _, hr, .inr ⟨w.heap.size, 0, _, _, rfl, hb, heap_alloc_new w.drew _, grownCap_ge w 1 0 _, grownCap_le_maxLen w 1 0 _ (by unfold maxLen; omega), ?_, fun i hi => ?_⟩, fun bS => Tk.drewAlloc _⟩
    · have := grownCap_ge w 1 0 63
      simp only [Array.size_append, List.size_toArray, size_zeroCells]
      simp [Value.cells]
      omega
    · obtain rfl : i = 0 := by simp at hi; omega
      simp
      refine ⟨?_, ?_⟩
      · first | rfl | (rw [Array.getElem?_append_left (by simp)]; rfl)
      · first | rfl | (rw [Array.getElem?_append_left (by simp)]; rfl)
  · have hB : Blk w g 63 cur := hg
    by_cases hroom : xs.length + 1 ≤ cap
    · have hr := run_append_room_cells (P := Tryd.prog) w t ty 63 i0 ht hi g o xs.length cap ad 1 c [.int .i64 p.1, .int .i64 p.2] (by rw [hz1]; rfl) hnews (by intro u hu; simp at hu; rcases hu with rfl | rfl <;> rfl) hroom
        (fun j hj => by
          rw [hB.cell, hz1, Array.getElem?_eq_getElem (by simp at hj; omega)]; rfl)
        (fun j hj => hB.frozen _)
      refine ⟨_, _, hr, .inr ⟨g, o, cap, _, by rw [List.length_append]; rfl, hbg, ((hB.set_ _ _).set_ _ _), by rw [List.length_append]; exact hroom, hm, by rw [Array.size_setIfInBounds, Array.size_setIfInBounds]; exact hs, fun i hi' => ?_⟩, fun bS => ?_⟩
      · rw [List.length_append] at hi'
        simp at hi'
        rw [hz1, Array.getElem?_setIfInBounds, Array.getElem?_setIfInBounds, Array.getElem?_setIfInBounds, Array.getElem?_setIfInBounds, Array.size_setIfInBounds]
        by_cases e : i = xs.length
        · subst e
          rw [ge_snoc', if_neg (by omega), if_pos rfl, if_pos (by omega), if_pos rfl, if_pos (by omega)]
          exact ⟨rfl, rfl⟩
        · rw [ge_snoc _ _ _ (by omega), if_neg (by omega), if_neg (by omega), if_neg (by omega), if_neg (by omega)]
          exact hc i (by omega)
      · have h1 := (Tk.refl w bS base).setLot (o := o + xs.length * i0.size) (u := .int .i64 p.1) hg hbg
        exact h1.setLot (hB.set_ _ _) hbg
    · have hsm : Sh w base (.slice (some ⟨g, o, none⟩) xs.length cap) xs := .inr ⟨g, o, cap, cur, rfl, hbg, hg, hlc, hm, hs, hc⟩
      have hold : ∀ j u, (xs.flatMap fun p => [Value.int .i64 p.1, Value.int .i64 p.2])[j]? = some u → w.cell? ((⟨g, o, none⟩ : Addr).add j) = some u := by
        by_cases hx : 0 < xs.length
        · obtain ⟨g', o', cap', hv, _, hcell⟩ := hsm.cell hx
          injection hv with hv _ _
          injection hv with hv
          injection hv with e1 e2 _
          subst e1 e2
          exact hcell
        · intro j u hu
          have : xs = [] := List.eq_nil_of_length_eq_zero (by omega)
          subst this
          simp at hu
      have hfl : (xs.flatMap fun p => [Value.int .i64 p.1, Value.int .i64 p.2]).length = xs.length * 2 := flat_len (fun p : Pr => [Value.int .i64 p.1, Value.int .i64 p.2]) 2 (fun _ => rfl) xs
      have hr := run_append_grow (P := Tryd.prog) w t ty 63 i0 _ ht hi hz0 ⟨g, o, none⟩ xs.length cap (xs.flatMap fun p => [Value.int .i64 p.1, Value.int .i64 p.2]) (by rw [hz1]; exact hfl) hold ad 1 c [.int .i64 p.1, .int .i64 p.2] (by rw [hz1]; rfl) hnews (by omega) (by omega) (growslice_fits (by omega) (by rw [hz2]; omega))
      have hge := grownCap_ge w (xs.length + 1) cap 63
      refine ⟨_, _, hr, .inr ⟨w.heap.size, 0, _, _, by rw [List.length_append]; rfl, hb, heap_alloc_new w.drew _, by rw [List.length_append]; exact hge, grownCap_le_maxLen w _ _ _ (by unfold maxLen; omega), ?_, fun i hi' => ?_⟩, fun bS => Tk.drewAlloc _⟩
      · simp only [Array.size_append, List.size_toArray, size_zeroCells, hfl]
        simp [Value.cells]
        omega
      · rw [List.length_append] at hi'
        simp at hi'
        have hcat : ∀ (j : Nat) (u : Value), ((xs ++ [p]).flatMap fun p => [Value.int .i64 p.1, Value.int .i64 p.2])[j]? = some u → ((xs.flatMap fun p => [Value.int .i64 p.1, Value.int .i64 p.2]).toArray ++ [Value.int .i64 p.1, Value.int .i64 p.2].toArray ++ Builtin.zeroCells (Value.agg #[.int .i64 0, .int .i64 0]).cells (grownCap w (xs.length + 1) cap 63 - (xs.length + 1)))[j]? = some u := by
          intro j u hu
          have hlt : j < ((xs ++ [p]).flatMap fun p => [Value.int .i64 p.1, Value.int .i64 p.2]).length := by
            rcases Nat.lt_or_ge j ((xs ++ [p]).flatMap fun p => [Value.int .i64 p.1, Value.int .i64 p.2]).length with h | h
            · exact h
            · rw [List.getElem?_eq_none h] at hu; cases hu
          rw [List.flatMap_append] at hu hlt
          rw [Array.getElem?_append_left (by simpa using hlt), List.append_toArray, List.getElem?_toArray]
          exact hu
        have hgt := fun r hr => flat_get (fun p : Pr => [Value.int .i64 p.1, Value.int .i64 p.2]) 2 (fun _ => rfl) (xs ++ [p]) i r (by simp; omega) hr (.int .i64 0)
        have e : (xs ++ [p])[i]'(by simp; omega) = ge (xs ++ [p]) i := by have := ge_some (xs := xs ++ [p]) (i := i) (by simp; omega); rw [List.getElem?_eq_getElem (by simp; omega)] at this; injection this
        have hflx : ((xs ++ [p]).flatMap fun p => [Value.int .i64 p.1, Value.int .i64 p.2]).length = (xs ++ [p]).length * 2 := flat_len (fun p : Pr => [Value.int .i64 p.1, Value.int .i64 p.2]) 2 (fun _ => rfl) (xs ++ [p])
        have hget : ∀ r, r < 2 → ((xs ++ [p]).flatMap fun p => [Value.int .i64 p.1, Value.int .i64 p.2])[i * 2 + r]? = some ([Value.int .i64 (ge (xs ++ [p]) i).1, Value.int .i64 (ge (xs ++ [p]) i).2].getD r (.int .i64 0)) := by
          intro r hr
          have h1 := hgt r hr
          unfold flat at h1
          rw [e, List.getD_eq_getElem?_getD, List.getElem?_eq_getElem (by rw [hflx]; simp; omega), Option.getD_some] at h1
          rw [List.getElem?_eq_getElem (by rw [hflx]; simp; omega), h1]
        rw [Nat.zero_add]
        exact ⟨hcat _ _ (hget 0 (by omega)), hcat _ _ (hget 1 (by omega))⟩
theorem wpList_append_sh {w : World} {ops : Array Oper} {rest : List Oper} {o : Oper} {a : Act} {Q : Exit → Act → World → Prop} (hgd : o.guard = none) (s x : Operand) (t : TypeId)
    (ho : o.op = .call { callee := .builtin .append, args := #[s, x], argTypes := #[t, t] }) (base : Nat) (v : Value) (xs : List Pr) (h : Sh w base v xs) (ht : Tryd.prog.underlying t = some (.slice 63)) (ad : Addr) (c : Nat) (p : Pr)
    (hs : a.eval s = v) (hx : a.eval x = .slice (some ad) 1 c) (hnews : ∀ j u, [Value.int .i64 p.1, Value.int .i64 p.2][j]? = some u → w.cell? (ad.add j) = some u) (hb : base ≤ w.heap.size) (hl : xs.length ≤ 1000)
    (hk : ∀ v' w', Sh w' base v' (xs ++ [p]) → (∀ bS, Tk w w' bS base) → wpList Tryd.prog ops Q rest (a.put o.dst v') w') : wpList Tryd.prog ops Q (o :: rest) a w :=
  wpList_plain hgd fun _ hK => by
    obtain ⟨v', w', hr, h2, h3⟩ := run_append_sh w base v xs h t o.type ht ad c p hnews hb hl
    unfold Oper.wp execOp
    simp only [ho, resolve, invoke, builtin, Sem.run_bind, Sem.run_pure, Result.andThen_ok, List.map_toArray, List.map_cons, List.map_nil, hs, hx, hr]
    exact hK _ _ (hk v' w' h2 h3)

end Go.Proofs.YtahegjhjonodlaaDoor

/- The walk of stock.Fifo. -/
namespace Go.Proofs.YtahegjhjonodlaaDoor
open Go.ChangeShapes Go.WideShapes Go.ChangeAt Go.RowKit Stb
set_option linter.unusedVariables false
set_option maxRecDepth 100000

theorem int_lot : (3 : TypeId) ≠ 63 := by decide
theorem own_lt' {w : World} {B : Nat} {T : TypeId} {s n : Nat} {v : Value} {xs : List Value} (h : w.ownsRow B T s v n xs) {b : Nat} (hb : v.ownBlock = some b) : b < w.heap.size ∧ B ≤ b := by
  have := h.lt b hb
  exact ⟨this.2, this.1⟩
theorem own_tk {w w' : World} {B bS base s n : Nat} {u : Value} {ys : List Value} (h : w.ownsRow B 3 s u n ys) (ht : Tk w w' bS base) (hB : bS < B) : w'.ownsRow B 3 s u n ys := by
  refine ⟨h.1, ?_⟩
  rcases h.2 with hn | ⟨g, cap, cur, rfl, hb, hg, rest⟩
  · exact .inl hn
  · refine .inr ⟨g, cap, cur, rfl, hb, ?_, rest⟩
    rw [ht.block g (Array.getElem?_eq_some_iff.1 hg).1 (by omega) (.inr fun cur' fz h' => ?_)]
    · exact hg
    · rw [hg] at h'
      injection h' with h'
      injection h' with _ h' _
      exact int_lot h'
theorem sh_grown {w w' : World} {B base s n : Nat} {u v : Value} {ys : List Value} {xs : List Pr} (hs : Sh w base v xs) (hu : w.ownsRow B 3 s u n ys) (hg : w.grownBy w' u.ownBlock) : Sh w' base v xs := by
  refine hs.same fun g cur hb h => hg.block g (Array.getElem?_eq_some_iff.1 h).1 fun e => ?_
  rcases hu.2 with ⟨rfl, _⟩ | ⟨g', cap, cur', rfl, hb', hg', rest⟩
  · simp [Value.ownBlock] at e
  · simp [Value.ownBlock] at e
    subst e
    rw [hg'] at h
    injection h with h
    injection h with _ h _
    exact int_lot h
theorem blk_grown {w w' : World} {B bS s n : Nat} {t T : TypeId} {u : Value} {cs : Array Value} {ys : List Value} (h : Blk w bS t cs) (hu : w.ownsRow B T s u n ys) (hB : bS < B) (hg : w.grownBy w' u.ownBlock) : Blk w' bS t cs :=
  (hg.block bS h.lt fun e => by have := (own_lt' hu e.symm).2; omega).trans h
theorem on_grown {w w1 w' : World} {bS s n : Nat} {T : TypeId} {u : Value} {ys : List Value} (h : On bS w w1) (hu : w1.ownsRow w.heap.size T s u n ys) (hg : w1.grownBy w' u.ownBlock) : On bS w w' :=
  ⟨hg.os.trans h.os, hg.tape.trans h.tape, hg.output.trans h.output, Nat.le_trans h.size hg.size, fun k hk hl => (hg.block k (Nat.lt_of_lt_of_le hl h.size) fun e => by have := (own_lt' hu e.symm).2; omega).trans (h.block k hk hl)⟩
theorem on_tk {w w1 w' : World} {bS : Nat} (h : On bS w w1) (ht : Tk w1 w' bS w.heap.size) : On bS w w' :=
  ⟨ht.os.trans h.os, ht.tape.trans h.tape, ht.output.trans h.output, Nat.le_trans h.size ht.size, fun k hk hl => (ht.block k (Nat.lt_of_lt_of_le hl h.size) hk (.inl hl)).trans (h.block k hk hl)⟩
theorem mor_on {w w0 wr : World} {bS : Nat} (h : Mor w w0) (ho : On bS w0 wr) (hb : w.heap.size ≤ bS) : Mor w wr := Mor.of_below (((On.of_mor h).trans ho).below hb)
theorem one_lit (w : World) (u : Value) (t : TypeId) : ∀ j x, [u][j]? = some x → (w.alloc (.cells #[u] t)).cell? ((⟨w.heap.size, 0, none⟩ : Addr).add j) = some x := by
  intro j x hj
  rw [adds, World.cell?_alloc_new]
  match j, hj with
  | 0, hj => simpa using hj
theorem two_lit (w : World) (u v : Value) (t : TypeId) : ∀ j x, [u, v][j]? = some x → (w.alloc (.cells #[u, v] t)).cell? ((⟨w.heap.size, 0, none⟩ : Addr).add j) = some x := by
  intro j x hj
  rw [adds, World.cell?_alloc_new]
  match j, hj with
  | 0, hj => simpa using hj
  | 1, hj => simpa using hj
theorem two_at {w : World} {b : Nat} (u v : Value) (t : TypeId) (h : b = w.heap.size) : ∀ j x, [u, v][j]? = some x → (w.alloc (.cells #[u, v] t)).cell? ((⟨b, 0, none⟩ : Addr).add j) = some x := by
  subst h; exact two_lit w u v t
theorem size_al (w : World) (o : Obj) : w.heap.size + 1 = (w.alloc o).heap.size := by show _ = (w.heap.push _).size; simp
/-- what the loop knows, when the shelf was appended to -/
theorem tk_all {w0 wr w2 : World} {bS : Nat} {v : Value} (hz : w0.heap.size = bS + 1) (ho : On bS w0 wr) (hb : Blk wr bS 112 #[v]) {o1 o2 : Obj} (ht : ∀ b, Tk ((wr.alloc o1).alloc o2) w2 b w0.heap.size) : On bS w0 w2 ∧ Blk w2 bS 112 #[v] := by
  have h1 : On bS w0 ((wr.alloc o1).alloc o2) := ho.mor (Mor.refl _).alloc.alloc
  have h2 : Blk ((wr.alloc o1).alloc o2) bS 112 #[v] := (hb.alloc _).alloc _
  exact ⟨on_tk h1 (ht bS), ((ht (bS + 1)).block bS h2.lt (by omega) (.inl (by omega))).trans h2⟩
def lc (p : Pr) : List Value := [.int .i64 p.1, .int .i64 p.2]

/-- onto nil, from a slice of another type -/
theorem run_append_nil2 {P : Program} (w : World) (t t2 ty e : TypeId) (i : TypeInfo) (z : Value) (ht : P.underlying t = some (.slice e)) (ht2 : P.underlying t2 = some (.slice e)) (hi : P.info? e = some i) (hz : i.zero = some z)
    (a : Addr) (n c : Nat) (news : List Value) (hl : news.length = n * i.size) (hnews : ∀ j v, news[j]? = some v → w.cell? (a.add j) = some v)
    (h0 : 0 < n) (h63 : (n : Int) ≤ 9223372036854775807) (h48 : n * i.bytes ≤ 281474976710656) :
    (Builtin.append_ #[t, t2] ty #[.slice none 0 0, .slice (some a) n c]).run P w =
      .ok (.slice (some ⟨w.heap.size, 0, none⟩) n (grownCap w n 0 e)) (w.drew.alloc (.cells (news.toArray ++ Builtin.zeroCells z.cells (grownCap w n 0 e - n)) e)) := by
  have hn : n ≠ 0 := by omega
  have h63' : ¬ (9223372036854775807 < (n : Int)) := by omega
  have h48' : ¬ (281474976710656 < Builtin.nextslicecap n 0 * i.bytes) := by rw [nextslicecap_zero h0]; omega
  have hf := run_firstCells_some (P := P) w.drew i.size n a n c news hl (by simpa using hnews)
  simp [Builtin.append_, run_underlying ht, run_underlying ht2, sizeOf, typeInfo, zeroValue, hi, hz, Builtin.lenOf, hn, h63', h48', Question.forced, run_firstCells_none, hf, newRow, grownCap]
theorem run_append_none2 {P : Program} (w : World) (t t2 ty e : TypeId) (i : TypeInfo) (ht : P.underlying t = some (.slice e)) (ht2 : P.underlying t2 = some (.slice e)) (hi : P.info? e = some i) (A : Option Addr) (c : Nat) :
    (Builtin.append_ #[t, t2] ty #[.slice none 0 0, .slice A 0 c]).run P w = .ok (.slice none 0 0) w := by
  cases A with
  | none => simp [Builtin.append_, run_underlying ht, run_underlying ht2, sizeOf, typeInfo, hi, Builtin.lenOf, run_firstCells_none]
  | some a =>
    have hf := run_firstCells_some (P := P) w i.size 0 a 0 c [] (by simp) (fun j v h => by simp at h)
    simp [Builtin.append_, run_underlying ht, run_underlying ht2, sizeOf, typeInfo, hi, Builtin.lenOf, hf]
/-- all of the shelf, apart -/
theorem run_append_all (w : World) (base B : Nat) (v : Value) (xs : List Pr) (h : Sh w base v xs) (t t2 ty : TypeId) (ht : Tryd.prog.underlying t = some (.slice 63)) (ht2 : Tryd.prog.underlying t2 = some (.slice 63)) (hb : B ≤ w.heap.size) (hl : xs.length ≤ 1000) :
    ∃ v' w', (Builtin.append_ #[t, t2] ty #[.slice none 0 0, v]).run Tryd.prog w = .ok v' w' ∧ w'.ownsRow B 63 2 v' xs.length (flat lc xs) ∧ w.grownBy w' none := by
  obtain ⟨i0, hi, hz0, hz1, hz2⟩ := info_parts info_lot
  by_cases hx : 0 < xs.length
  · obtain ⟨g, o, cap, rfl, hbg, hcell⟩ := h.cell hx
    have hfl : (xs.flatMap fun p => [Value.int .i64 p.1, Value.int .i64 p.2]).length = xs.length * 2 := flat_len (fun p : Pr => [Value.int .i64 p.1, Value.int .i64 p.2]) 2 (fun _ => rfl) xs
    have hr := run_append_nil2 (P := Tryd.prog) w t t2 ty 63 i0 _ ht ht2 hi hz0 ⟨g, o, none⟩ xs.length cap (xs.flatMap fun p => [Value.int .i64 p.1, Value.int .i64 p.2]) (by rw [hz1]; exact hfl) hcell hx (by omega) (by rw [hz2]; omega)
    have hge := grownCap_ge w xs.length 0 63
    refine ⟨_, _, hr, ⟨by show (xs.flatMap lc).length = _; exact hfl, .inr ⟨w.heap.size, _, _, rfl, hb, heap_alloc_new w.drew _, hge, grownCap_le_maxLen w _ _ _ (by unfold maxLen; omega), ?_, ?_⟩⟩, ⟨rfl, rfl, rfl, by simp, fun k hk _ => heap_alloc_old w.drew _ hk⟩⟩
    · simp only [Array.size_append, List.size_toArray, size_zeroCells, hfl]
      simp [Value.cells]
      omega
    · simp only [Array.toList_append]
      rw [← hfl]
      exact List.take_left
  · have hx0 : xs = [] := List.eq_nil_of_length_eq_zero (by omega)
    subst hx0
    obtain ⟨A, c, rfl⟩ := h.len
    exact ⟨_, _, run_append_none2 (P := Tryd.prog) w t t2 ty _ i0 ht ht2 hi A c, World.ownsRow_nil _ _ _ _, ⟨rfl, rfl, rfl, Nat.le_refl _, fun _ _ _ => rfl⟩⟩
theorem wpList_append_all {w : World} {ops : Array Oper} {rest : List Oper} {o : Oper} {a : Act} {Q : Exit → Act → World → Prop} (hgd : o.guard = none) (s x : Operand) (t t2 : TypeId)
    (ho : o.op = .call { callee := .builtin .append, args := #[s, x], argTypes := #[t, t2] }) (base B : Nat) (v : Value) (xs : List Pr) (h : Sh w base v xs) (ht : Tryd.prog.underlying t = some (.slice 63)) (ht2 : Tryd.prog.underlying t2 = some (.slice 63))
    (hs : a.eval s = .slice none 0 0) (hx : a.eval x = v) (hb : B ≤ w.heap.size) (hl : xs.length ≤ 1000)
    (hk : ∀ v' w', w'.ownsRow B 63 2 v' xs.length (flat lc xs) → w.grownBy w' none → wpList Tryd.prog ops Q rest (a.put o.dst v') w') : wpList Tryd.prog ops Q (o :: rest) a w :=
  wpList_plain hgd fun _ hK => by
    obtain ⟨v', w', hr, h2, h3⟩ := run_append_all w base B v xs h t t2 o.type ht ht2 hb hl
    unfold Oper.wp execOp
    simp only [ho, resolve, invoke, builtin, Sem.run_bind, Sem.run_pure, Result.andThen_ok, List.map_toArray, List.map_cons, List.map_nil, hs, hx, hr]
    exact hK _ _ (hk v' w' h2 h3)
theorem own_baseS {w : World} {B B' s n : Nat} {T : TypeId} {u : Value} {ys : List Value} (h : w.ownsRow B T s u n ys) (hB : B' ≤ B) : w.ownsRow B' T s u n ys := by
  refine ⟨h.1, ?_⟩
  rcases h.2 with hn | ⟨g, cap, cur, rfl, hb, rest⟩
  · exact .inl hn
  · exact .inr ⟨g, cap, cur, rfl, by omega, rest⟩
theorem own_keep {w w' : World} {B s n : Nat} {T : TypeId} {u : Value} {ys : List Value} (h : w.ownsRow B T s u n ys) (hg : w.grownBy w' none) : w'.ownsRow B T s u n ys :=
  h.kept hg (by cases u.ownBlock <;> simp)
theorem negs_le (xs : List Pr) (k : Nat) : negs xs k ≤ k := by
  induction k with
  | zero => exact Nat.le_refl _
  | succ k ih => show negs xs k + (if _ then 1 else 0) ≤ _; split <;> omega
theorem fifoS_pre {xs : List Pr} {n k : Nat} {s : List Pr × List Int} (h : fifoS xs n = some s) (hk : k ≤ n) : ∃ t, fifoS xs k = some t := by
  induction n generalizing s with
  | zero => obtain rfl : k = 0 := by omega
            exact ⟨_, rfl⟩
  | succ n ih =>
    by_cases e : k = n + 1
    · subst e; exact ⟨_, h⟩
    · cases ht : fifoS xs n with
      | none =>
        change (fifoS xs n).bind _ = _ at h
        rw [ht] at h; cases h
      | some t => exact ih ht (by omega)

/-- what went and what stays -/
def FfPost (w : World) (s : List Pr × List Int) (e : Ending) (w' : World) : Prop :=
  ∃ u v, e = .returned (.tuple #[u, v, .int .i64 0]) ∧ Mor w w' ∧ w'.ownsRow w.heap.size 3 1 u s.2.length (s.2.map (Value.int .i64)) ∧ w'.ownsRow w.heap.size 63 2 v s.1.length (flat lc s.1)
def FfNo (w : World) (c : Int) (e : Ending) (w' : World) : Prop := e = .returned (.tuple #[.slice none 0 0, .slice none 0 0, .int .i64 c]) ∧ Mor w w'

set_option maxRecDepth 100000 in
set_option maxHeartbeats 6400000 in
theorem fifo_ok (A : Option Addr) (n cap : Nat) (xs : List Pr) (s : List Pr × List Int) (w : World) (hr : Pi w A xs) (hn : xs.length = n) (hc : mvc xs = 0) (hs : fifoS xs n = some s) :
    Calls Tryd.prog 28 #[.slice A n cap] w (FfPost w s) := by
  obtain ⟨i0, hi, hz0, hz1, hz2⟩ := info_parts info_int'
  obtain ⟨j0, hj, hy0, hy1, hy2⟩ := info_parts info_lot
  obtain ⟨c1, c2⟩ := (mvc_iff xs).1 hc
  have n40 : n ≤ 40 := by omega
  have HC := Lib.hid (slook_any A n cap xs w hr hn (by unfold maxLen; omega))
  rw [hc] at HC
  have HR := Lib.hid hr
  have HN := Lib.hid hn
  have HOk := Lib.hid (fun k (h : k < n) => c2 k (by omega))
  have HF := Lib.hid (fun k (h : k ≤ n) s (e : fifoS xs k = some s) => fifoS_ok c2 (by omega) e)
  have HSs := Lib.hid hs
  clear hr hn hc c1 c2 hs
  go_enter Tryd.func28, Tryd.ntmps28
  go_wp2_with (first
    | (go_at_call 68; (with_reducible refine (HC.out).mono ?_); rintro e w1 ⟨rfl, hM⟩))
  have HM := Lib.hid hM
  clear hM HC
  have HW1 := Lib.hid (show w.heap.size ≤ w1.heap.size from HM.out.below.size)
  obtain ⟨bS, hbS⟩ : ∃ b, b = w1.heap.size := ⟨_, rfl⟩
  rw [← hbS]
  have hB0 := Blk.new w1 112 #[.slice none 0 0]
  have hM0 := (Mor.refl w1).alloc (o := .cells #[.slice none 0 0] 112)
  have hZ0 : (w1.alloc (.cells #[.slice none 0 0] 112)).heap.size = bS + 1 := by rw [hbS]; show (w1.heap.push _).size = _; simp
  rw [← hbS] at hB0
  generalize w1.alloc (.cells #[.slice none 0 0] 112) = w0 at *
  have HB0 := Lib.hid hB0
  have HM0 := Lib.hid (HM.out.trans' hM0)
  have HZ0 := Lib.hid hZ0
  have HbS := Lib.hid (show w.heap.size ≤ bS by rw [hbS]; exact HW1.out)
  clear hB0 hM0 hZ0 hbS HW1 HM
  go_loopw [7, 19] (fun u i wr => ∃ (k : Nat) (v : Value) (t : List Pr × List Int), k ≤ n ∧ i = .int .i64 k ∧ Hid (fifoS xs k = some t) ∧ Hid (Blk wr bS 112 #[v]) ∧ Hid (Sh wr w0.heap.size v t.1) ∧ Hid (wr.ownsRow w0.heap.size 3 1 u t.2.length (t.2.map (Value.int .i64))) ∧ Hid (On bS w0 wr)) (fun _ i _ => n - (intOf i).toNat)
  case atStart => exact ⟨0, _, ([], []), Nat.zero_le _, rfl, Lib.hid rfl, HB0, Lib.hid (Sh.nil _ _), Lib.hid (World.ownsRow_nil _ _ _ _), Lib.hid (On.refl _ _)⟩
  case round =>
    obtain ⟨k, v, t, hk, rfl, HFk, HB, HS, HU, HO⟩ := hrel
    by_cases hlt : k < n
    · have hki : (k : Int) < (n : Int) := by omega
      have hk0 : (0 : Int) ≤ (k : Int) := by omega
      have HMr := Lib.hid (mor_on HM0.out HO.out HbS.out)
      obtain ⟨x, hA, hxb, c1, c2⟩ := (HR.out.mor HMr.out).cells k (by rw [HN.out]; exact hlt)
      subst hA
      obtain ⟨t', ht'⟩ := fifoS_pre HSs.out (show k + 1 ≤ n by omega)
      have HFk' := Lib.hid ht'
      have hst : fstep t (ge xs k) = some t' := by
        have h1 : (fifoS xs k).bind (fun s => fstep s (ge xs k)) = some t' := ht'
        rw [HFk.out] at h1; exact h1
      have hF := HF.out k (by omega) t HFk.out
      have hm := HOk.out k hlt
      have hv : wr.cell? ⟨bS, 0, none⟩ = some v := by rw [HB.out.cell]; rfl
      have hfz : wr.frozen? ⟨bS, 0, none⟩ = false := HB.out.frozen _
      have hz : bS < wr.heap.size := HB.out.lt
      have hlen := hF.len
      clear ht'
      generalize ge xs k = p at *
      obtain ⟨d, a⟩ := p
      unfold fstep at hst
      unfold okM at hm
      dsimp only at *
      by_cases hd : 0 < d
      · rw [if_pos hd] at hst
        injection hst with hst
        subst hst
        have d1 : d ≤ 1000000 := by omega
        clear hm
        go_wp2_with (at_builtin; refine wpList_append_sh rfl _ _ 112 rfl w0.heap.size v t.1 ((HS.out.alloc _).alloc _) Tryd.underlying112 ⟨wr.heap.size + 1, 0, none⟩ 1 (d, a) rfl rfl (two_at _ _ _ (size_al _ _)) (by have := HO.out.size; simp; omega) (by omega) ?_; intro v' w2 hs2 ht2; obtain ⟨A', c', hv'⟩ := hs2.len; subst hv'; obtain ⟨q1, q2⟩ := tk_all HZ0.out HO.out HB.out ht2; have HS2 := Lib.hid hs2; have HU2 := Lib.hid (own_tk ((HU.out.alloc _).alloc _) (ht2 bS) (by have := HZ0.out; omega)); have HO2 := Lib.hid q1; have HB2 := Lib.hid q2; have hv2 : w2.cell? ⟨bS, 0, none⟩ = some v := (by rw [q2.cell]; rfl); have hf2 : w2.frozen? ⟨bS, 0, none⟩ = false := q2.frozen _; clear hs2 ht2 q1 q2)
        have HS3 := Lib.hid (show Sh (w2.setCell ⟨bS, 0, none⟩ (.slice A' (t.1.length + 1) c')) w0.heap.size (.slice A' (t.1.length + 1) c') (t.1 ++ [(d, a)]) from by
          have h := HS2.out
          rw [List.length_append] at h
          exact h.same fun g cur hb _ => Below.heap_setCell _ _ _ _ (show g ≠ bS by have := HZ0.out; omega))
        exact ⟨⟨k + 1, _, (t.1 ++ [(d, a)], t.2), by omega, by go_num, HFk', Lib.hid (HB2.out.set_ 0 _), HS3, Lib.hid (own_tk (base := 0) HU2.out (Tk.refl _ bS 0).setVar (by have := HZ0.out; omega)), Lib.hid (HO2.out.setCell _)⟩, by simp [intOf]; omega⟩
      · rw [if_neg hd] at hst
        obtain ⟨cc, ys, htk, ht'⟩ : ∃ c ys, takeF t.1 (-d) = some (c, ys) ∧ t' = (ys, t.2 ++ [c]) := by
          cases hq : takeF t.1 (-d) with
          | none => rw [hq] at hst; cases hst
          | some q => rw [hq] at hst; injection hst with hst; exact ⟨q.1, q.2, rfl, hst.symm⟩
        subst ht'
        have hTk := take_any bS w0.heap.size v t.1 (-d) (wr.alloc (.cells #[.int .i64 d, .int .i64 a] 55)) (HB.out.alloc _) (HS.out.alloc _) (by have := HZ0.out; omega) hF.ok (by omega) (by omega) (by omega)
        have HT := Lib.hid (hTk.mono (R' := fun e w' => e = .returned (.tuple #[.int .i64 cc, .bool true]) ∧ Tk (wr.alloc (.cells #[.int .i64 d, .int .i64 a] 55)) w' bS w0.heap.size ∧ ∃ v', Blk w' bS 112 #[v'] ∧ Sh w' w0.heap.size v' ys) (by
          rintro e w' ⟨h1, ⟨h2, _⟩ | ⟨c', ys', v', h2, h3, h4, h5⟩⟩
          · rw [htk] at h2; cases h2
          · rw [htk] at h2
            injection h2 with h2
            injection h2 with e1 e2
            subst e1 e2
            exact ⟨h3, h1, v', h4, h5⟩))
        have hlt2 := hF.outs
        have hng := negs_le xs k
        have dm : -1000000 ≤ d := by omega
        have dn : d < 0 := by omega
        clear hTk hm hst hd
        go_wp2_with (first
          | (go_at_call 69; (with_reducible refine (HT.out).mono ?_); rintro e w2 ⟨rfl, ht2, v', hb2, hs2⟩; have HO2 := Lib.hid (on_tk (HO.out.mor (Mor.refl _).alloc) ht2); have HU2 := Lib.hid (own_tk (HU.out.alloc _) ht2 (by have := HZ0.out; omega)); have HB2 := Lib.hid hb2; have HS2 := Lib.hid hs2; clear ht2 hb2 hs2)
          | (at_builtin; refine wpList_append_own _ rfl _ _ 22 rfl w0.heap.size 3 i0 (.int .i64 0) 1 8 Tryd.underlying22 hi hz0 hz1 hz2 rfl (by decide) _ _ _ rfl (HU2.out.alloc _) ⟨w2.heap.size, 0, none⟩ 1 1 [.int .i64 cc] rfl rfl (one_lit _ _ _) (by intro u hu; simp at hu; subst hu; rfl) (by unfold maxLen; omega) (by omega) (by have := HO2.out.size; simp; omega) ?_; intro u' w3 hu3 hg3 _; have HU3 := Lib.hid hu3; have HO3 := Lib.hid (on_grown (HO2.out.mor (Mor.refl _).alloc) (HU2.out.alloc _) hg3); have HB3 := Lib.hid (blk_grown (HB2.out.alloc _) (HU2.out.alloc _) (by have := HZ0.out; omega) hg3); have HS3 := Lib.hid (sh_grown (HS2.out.alloc _) (HU2.out.alloc _) hg3); clear hu3 hg3))
        exact ⟨⟨k + 1, v', (ys, t.2 ++ [cc]), by omega, by go_num, HFk', HB3, HS3, Lib.hid (by
          have h := HU3.out
          rw [List.length_append, List.map_append]
          exact h), HO3⟩, by simp [intOf]; omega⟩
    · obtain rfl : k = n := by omega
      have hst : s = t := by have := HFk.out; rw [HSs.out] at this; injection this
      subst hst
      have hF := HF.out k (Nat.le_refl _) s HFk.out
      have hv : wr.cell? ⟨bS, 0, none⟩ = some v := by rw [HB.out.cell]; rfl
      have hlen := hF.len
      have HMr := Lib.hid (mor_on HM0.out HO.out HbS.out)
      have HU2 := Lib.hid (own_baseS HU.out (show w.heap.size ≤ w0.heap.size from HM0.out.below.size))
      go_wp2_with (at_builtin; refine wpList_append_all rfl _ _ 60 112 rfl w0.heap.size w.heap.size v s.1 HS.out Tryd.underlying60 Tryd.underlying112 rfl rfl (by have := HMr.out.below.size; omega) (by omega) ?_; intro v2 w2 hv2 hg2; have HV2 := Lib.hid hv2; have HU3 := Lib.hid (own_keep HU2.out hg2); have HM2 := Lib.hid (Mor.of_below (HMr.out.below.grown hg2 HMr.out.below.size (fun k hk => by cases hk))); clear hv2 hg2)
      go_returns
      exact ⟨_, _, rfl, HM2.out, HU3.out, HV2.out⟩

end Go.Proofs.YtahegjhjonodlaaDoor

/- The walk of stock.Fifo, where there are not so many pieces, or moves are wrong. -/
namespace Go.Proofs.YtahegjhjonodlaaDoor
open Go.ChangeShapes Go.WideShapes Go.ChangeAt Go.RowKit Stb
set_option linter.unusedVariables false
set_option maxRecDepth 100000

set_option maxRecDepth 100000 in
set_option maxHeartbeats 6400000 in
theorem fifo_short (A : Option Addr) (n cap : Nat) (xs : List Pr) (w : World) (hr : Pi w A xs) (hn : xs.length = n) (hc : mvc xs = 0) (hs : fifoS xs n = none) :
    Calls Tryd.prog 28 #[.slice A n cap] w (FfNo w 8) := by
  obtain ⟨i0, hi, hz0, hz1, hz2⟩ := info_parts info_int'
  obtain ⟨j0, hj, hy0, hy1, hy2⟩ := info_parts info_lot
  obtain ⟨c1, c2⟩ := (mvc_iff xs).1 hc
  have n40 : n ≤ 40 := by omega
  have HC := Lib.hid (slook_any A n cap xs w hr hn (by unfold maxLen; omega))
  rw [hc] at HC
  have HR := Lib.hid hr
  have HN := Lib.hid hn
  have HOk := Lib.hid (fun k (h : k < n) => c2 k (by omega))
  have HF := Lib.hid (fun k (h : k ≤ n) s (e : fifoS xs k = some s) => fifoS_ok c2 (by omega) e)
  have HSs := Lib.hid hs
  clear hr hn hc c1 c2 hs
  go_enter Tryd.func28, Tryd.ntmps28
  go_wp2_with (first
    | (go_at_call 68; (with_reducible refine (HC.out).mono ?_); rintro e w1 ⟨rfl, hM⟩))
  have HM := Lib.hid hM
  clear hM HC
  have HW1 := Lib.hid (show w.heap.size ≤ w1.heap.size from HM.out.below.size)
  obtain ⟨bS, hbS⟩ : ∃ b, b = w1.heap.size := ⟨_, rfl⟩
  rw [← hbS]
  have hB0 := Blk.new w1 112 #[.slice none 0 0]
  have hM0 := (Mor.refl w1).alloc (o := .cells #[.slice none 0 0] 112)
  have hZ0 : (w1.alloc (.cells #[.slice none 0 0] 112)).heap.size = bS + 1 := by rw [hbS]; show (w1.heap.push _).size = _; simp
  rw [← hbS] at hB0
  generalize w1.alloc (.cells #[.slice none 0 0] 112) = w0 at *
  have HB0 := Lib.hid hB0
  have HM0 := Lib.hid (HM.out.trans' hM0)
  have HZ0 := Lib.hid hZ0
  have HbS := Lib.hid (show w.heap.size ≤ bS by rw [hbS]; exact HW1.out)
  clear hB0 hM0 hZ0 hbS HW1 HM
  go_loopw [7, 19] (fun u i wr => ∃ (k : Nat) (v : Value) (t : List Pr × List Int), k ≤ n ∧ i = .int .i64 k ∧ Hid (fifoS xs k = some t) ∧ Hid (Blk wr bS 112 #[v]) ∧ Hid (Sh wr w0.heap.size v t.1) ∧ Hid (wr.ownsRow w0.heap.size 3 1 u t.2.length (t.2.map (Value.int .i64))) ∧ Hid (On bS w0 wr)) (fun _ i _ => n - (intOf i).toNat)
  case atStart => exact ⟨0, _, ([], []), Nat.zero_le _, rfl, Lib.hid rfl, HB0, Lib.hid (Sh.nil _ _), Lib.hid (World.ownsRow_nil _ _ _ _), Lib.hid (On.refl _ _)⟩
  case round =>
    obtain ⟨k, v, t, hk, rfl, HFk, HB, HS, HU, HO⟩ := hrel
    by_cases hlt : k < n
    · have hki : (k : Int) < (n : Int) := by omega
      have hk0 : (0 : Int) ≤ (k : Int) := by omega
      have HMr := Lib.hid (mor_on HM0.out HO.out HbS.out)
      obtain ⟨x, hA, hxb, c1, c2⟩ := (HR.out.mor HMr.out).cells k (by rw [HN.out]; exact hlt)
      subst hA
      have HNx := Lib.hid (fun t' (h : fstep t (ge xs k) = some t') => show fifoS xs (k + 1) = some t' by
        show (fifoS xs k).bind (fun s => fstep s (ge xs k)) = some t'
        rw [HFk.out]; exact h)
      have hF := HF.out k (by omega) t HFk.out
      have hm := HOk.out k hlt
      have hv : wr.cell? ⟨bS, 0, none⟩ = some v := by rw [HB.out.cell]; rfl
      have hfz : wr.frozen? ⟨bS, 0, none⟩ = false := HB.out.frozen _
      have hz : bS < wr.heap.size := HB.out.lt
      have hlen := hF.len
      generalize ge xs k = p at *
      obtain ⟨d, a⟩ := p
      unfold fstep at HNx
      unfold okM at hm
      dsimp only at *
      by_cases hd : 0 < d
      · have HFk' := Lib.hid (HNx.out _ (by rw [if_pos hd]))
        have d1 : d ≤ 1000000 := by omega
        clear hm
        go_wp2_with (at_builtin; refine wpList_append_sh rfl _ _ 112 rfl w0.heap.size v t.1 ((HS.out.alloc _).alloc _) Tryd.underlying112 ⟨wr.heap.size + 1, 0, none⟩ 1 (d, a) rfl rfl (two_at _ _ _ (size_al _ _)) (by have := HO.out.size; simp; omega) (by omega) ?_; intro v' w2 hs2 ht2; obtain ⟨A', c', hv'⟩ := hs2.len; subst hv'; obtain ⟨q1, q2⟩ := tk_all HZ0.out HO.out HB.out ht2; have HS2 := Lib.hid hs2; have HU2 := Lib.hid (own_tk ((HU.out.alloc _).alloc _) (ht2 bS) (by have := HZ0.out; omega)); have HO2 := Lib.hid q1; have HB2 := Lib.hid q2; have hv2 : w2.cell? ⟨bS, 0, none⟩ = some v := (by rw [q2.cell]; rfl); have hf2 : w2.frozen? ⟨bS, 0, none⟩ = false := q2.frozen _; clear hs2 ht2 q1 q2)
        have HS3 := Lib.hid (show Sh (w2.setCell ⟨bS, 0, none⟩ (.slice A' (t.1.length + 1) c')) w0.heap.size (.slice A' (t.1.length + 1) c') (t.1 ++ [(d, a)]) from by
          have h := HS2.out
          rw [List.length_append] at h
          exact h.same fun g cur hb _ => Below.heap_setCell _ _ _ _ (show g ≠ bS by have := HZ0.out; omega))
        exact ⟨⟨k + 1, _, (t.1 ++ [(d, a)], t.2), by omega, by go_num, HFk', Lib.hid (HB2.out.set_ 0 _), HS3, Lib.hid (own_tk (base := 0) HU2.out (Tk.refl _ bS 0).setVar (by have := HZ0.out; omega)), Lib.hid (HO2.out.setCell _)⟩, by simp [intOf]; omega⟩
      · have hTk := take_any bS w0.heap.size v t.1 (-d) (wr.alloc (.cells #[.int .i64 d, .int .i64 a] 55)) (HB.out.alloc _) (HS.out.alloc _) (by have := HZ0.out; omega) hF.ok (by omega) (by omega) (by omega)
        have hlt2 := hF.outs
        have hng := negs_le xs k
        have dm : -1000000 ≤ d := by omega
        have dn : d < 0 := by omega
        cases hq : takeF t.1 (-d) with
        | none =>
          have HT := Lib.hid (hTk.mono (R' := fun e w' => e = .returned (.tuple #[.int .i64 0, .bool false]) ∧ Tk (wr.alloc (.cells #[.int .i64 d, .int .i64 a] 55)) w' bS w0.heap.size) (by
            rintro e w' ⟨h1, ⟨_, h2⟩ | ⟨c', ys', v', h2, _⟩⟩
            · exact ⟨h2, h1⟩
            · rw [hq] at h2; cases h2))
          clear hTk hm hd hq
          go_wp2_with (first
            | (go_at_call 69; (with_reducible refine (HT.out).mono ?_); rintro e w2 ⟨rfl, ht2⟩; have HO2 := Lib.hid (on_tk (HO.out.mor (Mor.refl _).alloc) ht2); clear ht2))
          go_returns
          exact ⟨rfl, mor_on HM0.out HO2.out HbS.out⟩
        | some cy =>
          obtain ⟨cc, ys⟩ := cy
          have HFk' := Lib.hid (HNx.out (ys, t.2 ++ [cc]) (by rw [if_neg hd, hq]; rfl))
          have htk := hq
          have HT := Lib.hid (hTk.mono (R' := fun e w' => e = .returned (.tuple #[.int .i64 cc, .bool true]) ∧ Tk (wr.alloc (.cells #[.int .i64 d, .int .i64 a] 55)) w' bS w0.heap.size ∧ ∃ v', Blk w' bS 112 #[v'] ∧ Sh w' w0.heap.size v' ys) (by
            rintro e w' ⟨h1, ⟨h2, _⟩ | ⟨c', ys', v', h2, h3, h4, h5⟩⟩
            · rw [htk] at h2; cases h2
            · rw [htk] at h2
              injection h2 with h2
              injection h2 with e1 e2
              subst e1 e2
              exact ⟨h3, h1, v', h4, h5⟩))
          clear hTk hm hd hq htk
          go_wp2_with (first
            | (go_at_call 69; (with_reducible refine (HT.out).mono ?_); rintro e w2 ⟨rfl, ht2, v', hb2, hs2⟩; have HO2 := Lib.hid (on_tk (HO.out.mor (Mor.refl _).alloc) ht2); have HU2 := Lib.hid (own_tk (HU.out.alloc _) ht2 (by have := HZ0.out; omega)); have HB2 := Lib.hid hb2; have HS2 := Lib.hid hs2; clear ht2 hb2 hs2)
            | (at_builtin; refine wpList_append_own _ rfl _ _ 22 rfl w0.heap.size 3 i0 (.int .i64 0) 1 8 Tryd.underlying22 hi hz0 hz1 hz2 rfl (by decide) _ _ _ rfl (HU2.out.alloc _) ⟨w2.heap.size, 0, none⟩ 1 1 [.int .i64 cc] rfl rfl (one_lit _ _ _) (by intro u hu; simp at hu; subst hu; rfl) (by unfold maxLen; omega) (by omega) (by have := HO2.out.size; simp; omega) ?_; intro u' w3 hu3 hg3 _; have HU3 := Lib.hid hu3; have HO3 := Lib.hid (on_grown (HO2.out.mor (Mor.refl _).alloc) (HU2.out.alloc _) hg3); have HB3 := Lib.hid (blk_grown (HB2.out.alloc _) (HU2.out.alloc _) (by have := HZ0.out; omega) hg3); have HS3 := Lib.hid (sh_grown (HS2.out.alloc _) (HU2.out.alloc _) hg3); clear hu3 hg3))
          exact ⟨⟨k + 1, v', (ys, t.2 ++ [cc]), by omega, by go_num, HFk', HB3, HS3, Lib.hid (by
            have h := HU3.out
            rw [List.length_append, List.map_append]
            exact h), HO3⟩, by simp [intOf]; omega⟩
    · obtain rfl : k = n := by omega
      have h := HFk.out
      rw [HSs.out] at h
      cases h

set_option maxHeartbeats 1600000 in
theorem fifo_bad (A : Option Addr) (n cap : Nat) (xs : List Pr) (w : World) (hr : Pi w A xs) (hn : xs.length = n) (hml : n ≤ maxLen) (hc : mvc xs ≠ 0) :
    Calls Tryd.prog 28 #[.slice A n cap] w (FfNo w (mvc xs)) := by
  have HC := Lib.hid (slook_any A n cap xs w hr hn hml)
  have hc' : (mvc xs == 0) = false := by simpa using hc
  generalize mvc xs = c at *
  clear hr hn hml hc
  go_enter Tryd.func28, Tryd.ntmps28
  go_wp2_with (first
    | (go_at_call 68; (with_reducible refine (HC.out).mono ?_); rintro e w1 ⟨rfl, hM⟩))
  go_returns
  exact ⟨rfl, hM⟩
/-- what is wrong -/
def fifoc (xs : List Pr) : Int := if mvc xs ≠ 0 then mvc xs else if (fifoS xs xs.length).isNone then 8 else 0
theorem fifo_no (A : Option Addr) (n cap : Nat) (xs : List Pr) (w : World) (hr : Pi w A xs) (hn : xs.length = n) (hml : n ≤ maxLen) (hc : fifoc xs ≠ 0) :
    Calls Tryd.prog 28 #[.slice A n cap] w (FfNo w (fifoc xs)) := by
  by_cases h : mvc xs = 0
  · have e : fifoc xs = if (fifoS xs xs.length).isNone then 8 else 0 := by unfold fifoc; rw [if_neg (by simp [h])]
    rw [e] at hc ⊢
    cases hq : fifoS xs xs.length with
    | none => rw [if_pos (by rfl)]; exact fifo_short A n cap xs w hr hn h (by rw [← hn]; exact hq)
    | some s => rw [hq] at hc; exact absurd rfl hc
  · have e : fifoc xs = mvc xs := by unfold fifoc; rw [if_pos h]
    rw [e]; exact fifo_bad A n cap xs w hr hn hml h
theorem fifoc_zero {xs : List Pr} (h : fifoc xs = 0) : mvc xs = 0 ∧ ∃ s, fifoS xs xs.length = some s := by
  unfold fifoc at h
  split at h
  · rename_i h1; exact absurd h h1
  · rename_i h1
    refine ⟨by omega, ?_⟩
    cases hq : fifoS xs xs.length with
    | none => rw [hq] at h; simp at h
    | some s => exact ⟨s, rfl⟩

end Go.Proofs.YtahegjhjonodlaaDoor
