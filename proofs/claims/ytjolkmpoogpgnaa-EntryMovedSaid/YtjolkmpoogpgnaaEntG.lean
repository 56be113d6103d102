/- The walks of slices.Grow (from nil), slices.Concat (of two) and slices.Clone at lines. -/
import Derived.Test.YtjolkmpoogpgnaaEntE
import Derived.Lib.Walk
import Derived.Lib.SliceRun
import Derived.Lib.AppendZerosOnto
import Derived.Handy
namespace Go.Proofs.Ytjolkmpoogpgnaa
open Go.ChangeShapes Go.WideShapes Go.ChangeAt Go.RowKit Go.PlainAid Go.Lib
set_option linter.unusedVariables false

/-- the kit's walk of slices.Grow, turned to lines, from nil -/
def GrowPost (w : World) (n : Nat) (e : Ending) (w' : World) : Prop :=
  ∃ G, e = .returned (.slice (some ⟨w.heap.size, 0, none⟩) 0 G) ∧ w'.ownsRow w.heap.size 30 2 (.slice (some ⟨w.heap.size, 0, none⟩) 0 G) 0 [] ∧ Mor w w'

set_option maxHeartbeats 4000000 in
set_option maxRecDepth 100000 in
theorem grow_nil (n : Nat) (w : World) (h1 : 1 ≤ n) (h2 : n ≤ 1000) :
    Calls Try.prog 45 #[.slice none 0 0, .int .i64 n] w (GrowPost w n) := by
  obtain ⟨i0, hi, hz0, hz1, hz2⟩ := info_parts info_line
  have h3 : ¬ ((n : Int) < 0) := by omega
  have h4 : wrap64 ((n : Int) - 0) = (n : Int) := by unfold wrap64; omega
  have hrz : ∀ ty, (Builtin.append_ #[22, 3] ty #[.slice none 0 0, .int .i64 (n : Int)]).run Try.prog w =
      .ok (.slice (some ⟨w.heap.size, 0, none⟩) n (grownCap w n 0 30)) (w.drew.alloc (.cells ((#[] : Array Value) ++ Builtin.zeroCells (Value.agg #[.string { data := #[] }, .int .i64 0]).cells n ++ Builtin.zeroCells (Value.agg #[.string { data := #[] }, .int .i64 0]).cells (grownCap w n 0 30 - n)) 30)) := fun ty => by
    have h := Lib.run_append_grow_zeros w 22 3 ty 30 i0 _ .i64 .i64 Try.underlying22 Try.underlying3 hi hz0 none 0 0 [] (run_firstCells_none w.drew i0.size 0 0 0) n (by omega) (by omega) (by omega) (by omega)
      (by rw [hz2]; omega)
      (by rw [Nat.zero_add]; exact growslice_fits (by omega) (by rw [hz2]; omega))
    rw [Nat.zero_add] at h
    exact h
  obtain ⟨G, hG⟩ : ∃ G, G = grownCap w n 0 30 := ⟨_, rfl⟩
  have hGn : n ≤ G := by rw [hG]; exact grownCap_ge w _ _ _
  have hGm : G ≤ maxLen := by rw [hG]; exact grownCap_le_maxLen w n 0 30 (by unfold maxLen; omega)
  rw [← hG] at hrz
  have hG63 : G ≤ 9223372036854775807 := by unfold maxLen at hGm; omega
  clear hG
  have HFin := Lib.hid (show GrowPost w n (.returned (.slice (some ⟨w.heap.size, 0, none⟩) 0 G)) (w.alloc (.cells (Builtin.zeroCells #[.string { data := #[] }, .int .i64 0] n ++ Builtin.zeroCells #[.string { data := #[] }, .int .i64 0] (G - n)) 30)).drew from by
    refine ⟨G, rfl, ⟨rfl, .inr ⟨w.heap.size, G, _, rfl, Nat.le_refl _, heap_alloc_new w _, Nat.zero_le _, hGm, ?_, by simp⟩⟩, (Mor.refl _).alloc.drew⟩
    rw [Array.size_append, size_zeroCells, size_zeroCells]
    simp
    omega)
  go_enter Try.func45, Try.ntmps45
  go_wp2_with (at_builtin; refine Lib.wpList_append_run _ rfl _ _ _ _ rfl _ _ rfl rfl _ _ (hrz _) ?_)
  all_goals (go_ret; exact HFin.out)

theorem si_flat {w : World} {x : Addr} {xs : List Ln} (h : Si w (some x) xs) (j : Nat) (u : Value) (hu : (flat pc xs)[j]? = some u) : w.cell? (x.add j) = some u := by
  have hl := flat_len pc 2 pc_len xs
  have hj : j < xs.length * 2 := by
    rcases Nat.lt_or_ge j (flat pc xs).length with h | h
    · omega
    · rw [List.getElem?_eq_none h] at hu; cases hu
  have hk : j / 2 < xs.length := by omega
  obtain ⟨y, hy, _, c1, c2⟩ := h.at_ (j / 2) hk
  injection hy with hy
  subst hy
  have hg := flat_get pc 2 pc_len xs (j / 2) (j % 2) hk (by omega) (.int .i64 0)
  rw [show j / 2 * 2 + j % 2 = j by omega, List.getD_eq_getElem?_getD, hu] at hg
  obtain ⟨e1, e2⟩ := cd_get xs (j / 2) hk
  rcases Nat.mod_two_eq_zero_or_one j with hr | hr
  · rw [hr] at hg
    rw [show x.add j = x.add (j / 2 * 2) by congr 1; omega, c1, e1]
    simpa [pc] using hg.symm
  · rw [hr] at hg
    rw [show x.add j = (x.add (j / 2 * 2)).add 1 by rw [Addr.add_add]; congr 1; omega, Addr.add_succ' (x.add (j / 2 * 2)) 0]
    rw [Nat.zero_add, c2, e2]
    simpa [pc] using hg.symm
theorem flat_one (xs : List Ln) : ∀ u ∈ flat pc xs, u.oneCell' = true := by
  intro u hu
  simp only [flat, List.mem_flatMap, pc, List.mem_cons, List.not_mem_nil, or_false] at hu
  obtain ⟨x, _, rfl | rfl⟩ := hu <;> rfl

theorem cd_drop (xs : List Ln) (t i : Nat) : cd (xs.drop t) i = cd xs (t + i) ∧ am (xs.drop t) i = am xs (t + i) := by
  unfold cd am; rw [List.getD_eq_getElem?_getD, List.getD_eq_getElem?_getD, List.getElem?_drop]; exact ⟨rfl, rfl⟩
theorem cd_take (xs : List Ln) (t i : Nat) (h : i < t) : cd (xs.take t) i = cd xs i ∧ am (xs.take t) i = am xs i := by
  unfold cd am; rw [List.getD_eq_getElem?_getD, List.getD_eq_getElem?_getD, List.getElem?_take, if_pos h]; exact ⟨rfl, rfl⟩
theorem si_drop {w : World} {x : Addr} {xs : List Ln} (h : Si w (some x) xs) (t : Nat) (ht : t < xs.length) : Si w (some (x.add (t * 2))) (xs.drop t) := by
  obtain ⟨y, hy, hb, _, _⟩ := h.at_ t ht
  injection hy with hy
  subst hy
  refine .inr ⟨_, rfl, by rw [addb]; exact hb, fun i hi => ?_⟩
  rw [List.length_drop] at hi
  obtain ⟨z, hz, _, c1, c2⟩ := h.at_ (t + i) (by omega)
  injection hz with hz
  subst hz
  rw [(cd_drop xs t i).1, (cd_drop xs t i).2, Addr.add_add, show t * 2 + i * 2 = (t + i) * 2 by omega]
  exact ⟨c1, c2⟩
theorem si_take {w : World} {A : Option Addr} {xs : List Ln} (h : Si w A xs) (t : Nat) : Si w A (xs.take t) := by
  by_cases h0 : xs.take t = []
  · exact .inl h0
  · have hl : 0 < (xs.take t).length := List.length_pos_iff.2 h0
    rw [List.length_take] at hl
    obtain ⟨x, hx, hb, _, _⟩ := h.at_ 0 (by omega)
    refine .inr ⟨x, hx, hb, fun i hi => ?_⟩
    rw [List.length_take] at hi
    obtain ⟨y, hy, _, c1, c2⟩ := h.at_ i (by omega)
    rw [hx] at hy
    injection hy with hy
    subst hy
    rw [(cd_take xs t i (by omega)).1, (cd_take xs t i (by omega)).2]
    exact ⟨c1, c2⟩

theorem si_blk {w : World} {g : Nat} {T : TypeId} {cur : Array Value} {zs : List Ln} (hb : Bk w g T cur) (h : ∀ k, k < zs.length → cur[k * 2]? = some (.string (cd zs k)) ∧ cur[k * 2 + 1]? = some (.int .i64 (am zs k))) : Si w (some ⟨g, 0, none⟩) zs := by
  refine .inr ⟨_, rfl, hb.lt, fun i hi => ?_⟩
  rw [adds, Nat.zero_add]
  exact ⟨by rw [hb.cell]; exact (h i hi).1, by rw [hb.cell]; exact (h i hi).2⟩
theorem own_cur {w : World} {base n : Nat} {T : TypeId} {v : Value} {xs : List Ln} (h : w.ownsRow base T 2 v n (flat pc xs)) (hn : 1 ≤ n) (hl : xs.length = n) :
    ∃ g cap cur, v = .slice (some ⟨g, 0, none⟩) n cap ∧ base ≤ g ∧ n ≤ cap ∧ Bk w g T cur ∧ ∀ k, k < n → cur[k * 2]? = some (.string (cd xs k)) ∧ cur[k * 2 + 1]? = some (.int .i64 (am xs k)) := by
  obtain ⟨hlen, h | ⟨g, cap, cur, rfl, hg, hb, h1, h2, h3, h4⟩⟩ := h
  · omega
  · have hget : ∀ j, j < n * 2 → cur[j]? = (flat pc xs)[j]? := fun j hj => by
      have := congrArg (fun l : List Value => l[j]?) h4
      simp only [List.getElem?_take] at this
      rw [if_pos hj] at this
      rw [← Array.getElem?_toList]; exact this
    have hfl := flat_len pc 2 pc_len xs
    refine ⟨g, cap, cur, rfl, hg, h1, hb, fun k hk => ?_⟩
    obtain ⟨e1, e2⟩ := cd_get xs k (by omega)
    have f0 := flat_get pc 2 pc_len xs k 0 (by omega) (by omega) (.int .i64 0)
    have f1 := flat_get pc 2 pc_len xs k 1 (by omega) (by omega) (.int .i64 0)
    rw [List.getD_eq_getElem?_getD, List.getElem?_eq_getElem (by omega)] at f0 f1
    constructor
    · rw [hget _ (by omega), List.getElem?_eq_getElem (by omega), e1]
      simpa [pc] using f0
    · rw [hget _ (by omega), List.getElem?_eq_getElem (by omega), e2]
      simpa [pc] using f1
theorem set_cur {cur : Array Value} {xs : List Ln} {n : Nat} (i : Nat) (b : Int) (hi : i < n) (hl : xs.length = n) (h : ∀ k, k < n → cur[k * 2]? = some (.string (cd xs k)) ∧ cur[k * 2 + 1]? = some (.int .i64 (am xs k))) :
    ∀ k, k < (xs.set i (cd xs i, b)).length → (cur.setIfInBounds (i * 2 + 1) (.int .i64 b))[k * 2]? = some (.string (cd (xs.set i (cd xs i, b)) k)) ∧ (cur.setIfInBounds (i * 2 + 1) (.int .i64 b))[k * 2 + 1]? = some (.int .i64 (am (xs.set i (cd xs i, b)) k)) := by
  intro k hk
  rw [List.length_set] at hk
  obtain ⟨h1, h2⟩ := h k (by omega)
  have hs : i * 2 + 1 < cur.size := by
    rcases Nat.lt_or_ge (i * 2 + 1) cur.size with q | q
    · exact q
    · have := (h i hi).2; rw [Array.getElem?_eq_none q] at this; cases this
  have hset : ∀ p : Ln → Prop, True := fun _ => trivial
  rw [Array.getElem?_setIfInBounds, Array.getElem?_setIfInBounds, if_neg (by omega)]
  unfold cd am
  rw [List.getD_eq_getElem?_getD, List.getElem?_set]
  by_cases e : i = k
  · subst e
    rw [if_pos rfl, if_pos rfl, if_pos hs, if_pos (by omega)]
    exact ⟨h1, rfl⟩
  · rw [if_neg e, if_neg (by omega)]
    exact ⟨h1, h2⟩

/-- a slice of lines that the call made -/
def MadePost (w : World) (n : Nat) (ys : List Ln) (e : Ending) (w' : World) : Prop :=
  ∃ v, e = .returned v ∧ w'.ownsRow w.heap.size 30 2 v n (flat pc ys) ∧ Mor w w'

@[go_sem] theorem eql_nil_ln (w : World) (a : Option Addr) (n c : Nat) : (binOp .eql 22 (.slice a n c) (.slice none 0 0)).run Try.prog w = .ok (.bool a.isNone) w :=
  Lib.run_eql_slice_nil w _ 30 a n c 0 0 Try.underlying22

set_option maxHeartbeats 1600000 in
theorem clone_ln (x : Addr) (n cap : Nat) (xs : List Ln) (w : World) (hr : Si w (some x) xs) (hn : xs.length = n) (hl : n ≤ 1000000) :
    Calls Try.prog 21 #[.slice (some x) n cap] w (MadePost w n xs) := by
  obtain ⟨i0, hi, hz0, hz1, hz2⟩ := info_parts info_line
  have HC := Lib.hid (fun (W : World) (hW : Mor w W) j u hu => si_flat (hr.mor hW) j u hu)
  have HL := Lib.hid (show (flat pc xs).length = n * 2 by rw [flat_len pc 2 pc_len, hn])
  clear hr hn
  go_enter Try.func21, Try.ntmps21
  go_wp2_with (at_builtin; refine wpList_append_own _ rfl _ _ 22 rfl w.heap.size 30 i0 (.agg #[.string { data := #[] }, .int .i64 0]) 2 24 Try.underlying22 hi hz0 hz1 hz2 rfl (by decide) _ 0 [] rfl ⟨by simp, .inr ⟨w.heap.size, 0, #[], rfl, Nat.le_refl _, heap_alloc_new w _, Nat.le_refl _, by unfold maxLen; omega, rfl, rfl⟩⟩ x n cap (flat pc xs) rfl (by rw [HL.out]) ?_ ?_ ?_ ?_ ?_ ?_)
  case refine_6 =>
    intro v' w1 hown hgrow _
    have HO := Lib.hid hown
    have HB : Hid (Below w.heap.size w w1) := Lib.hid (((Below.refl _ _).alloc (Nat.le_refl _) _).grown hgrow (by simp) (by intro k hk; simp [Value.ownBlock] at hk; omega))
    clear hown hgrow
    go_wp2
    go_ret
    exact ⟨v', rfl, by simpa using HO.out, Mor.of_below HB.out⟩
  all_goals try (first | (exact fun j u hu => HC.out _ ((Mor.refl _).alloc) j u hu) | (exact flat_one xs) | (unfold maxLen; omega) | omega | simp)

set_option maxRecDepth 100000 in
set_option maxHeartbeats 3200000 in
theorem concat2 (g : Nat) (x1 x2 : Addr) (n1 c1 n2 c2 : Nat) (xs1 xs2 : List Ln) (w : World) (hb : Bk w g 22 #[.slice (some x1) n1 c1, .slice (some x2) n2 c2]) (h1 : Si w (some x1) xs1) (h2 : Si w (some x2) xs2) (l1 : xs1.length = n1) (l2 : xs2.length = n2) (hl : 1 ≤ n1 + n2) (hm : n1 + n2 ≤ 1000) :
    Calls Try.prog 20 #[.slice (some ⟨g, 0, none⟩) 2 2] w (MadePost w (n1 + n2) (xs1 ++ xs2)) := by
  obtain ⟨i0, hi, hz0, hz1, hz2⟩ := info_parts info_line
  have b0 := hb.cell 0
  have b1 := hb.cell 1
  have bl := hb.lt
  simp at b0 b1
  have HB := Lib.hid hb
  have HC1 := Lib.hid (fun (W : World) (hW : Mor w W) j u hu => si_flat (h1.mor hW) j u hu)
  have HC2 := Lib.hid (fun (W : World) (hW : Mor w W) j u hu => si_flat (h2.mor hW) j u hu)
  have HL1 := Lib.hid (show (flat pc xs1).length = n1 * 2 by rw [flat_len pc 2 pc_len, l1])
  have HL2 := Lib.hid (show (flat pc xs2).length = n2 * 2 by rw [flat_len pc 2 pc_len, l2])
  have HG := Lib.hid (fun w => grow_nil (n1 + n2) w hl hm)
  rw [show ((n1 + n2 : Nat) : Int) = (n1 : Int) + (n2 : Int) by omega] at HG
  have p0 : (0 : Int) ≤ (n1 : Int) := by omega
  have p1 : (0 : Int) ≤ (n1 : Int) + (n2 : Int) := by omega
  clear hb h1 h2 l1 l2
  go_enter Try.func20, Try.ntmps20
  go_wp2
  refine wp_loop_rounds 3 ?_
  rw [rounds_succ]
  go_wp2
  rw [rounds_succ]
  go_wp2
  rw [rounds_succ]
  go_wp2_with ((go_at_call 45; (with_reducible refine (HG.out _).mono ?_); rintro e w1 ⟨G, rfl, hown, hm1⟩))
  have HO := Lib.hid hown
  have HM1 := Lib.hid hm1
  have HB1 := Lib.hid (HB.out.mor hm1)
  have d0 := HB1.out.cell 0
  have d1 := HB1.out.cell 1
  have dl := HB1.out.lt
  simp at d0 d1
  clear hown hm1 b0 b1
  refine wp_loop_rounds 3 ?_
  rw [rounds_succ]
  go_wp2_with (at_builtin; refine wpList_append_own _ rfl _ _ 22 rfl w.heap.size 30 i0 (.agg #[.string { data := #[] }, .int .i64 0]) 2 24 Try.underlying22 hi hz0 hz1 hz2 rfl (by decide) _ 0 [] rfl HO.out x1 n1 c1 (flat pc xs1) rfl (by rw [HL1.out]) ?_ ?_ ?_ ?_ ?_ ?_)
  case refine_6 =>
    intro v2 w2 hown hgrow _
    have HX := Lib.hid (show Below w.heap.size w w2 from HM1.out.below.grown hgrow (by have := HM1.out.below.size; omega) (by intro k hk; simp [Value.ownBlock] at hk; omega))
    have HO2 := Lib.hid (show w2.ownsRow w.heap.size 30 2 v2 n1 (flat pc xs1) by simpa using hown)
    have HB2 := Lib.hid (HB.out.mor (Mor.of_below HX.out))
    obtain ⟨A2, k2, rfl, hk2, _, _⟩ := own_shape HO2.out
    have e0 := HB2.out.cell 0
    have e1 := HB2.out.cell 1
    have el := HB2.out.lt
    simp at e0 e1
    clear hown hgrow d0 d1 dl HB1
    go_wp2_with fail
    rw [rounds_succ]
    go_wp2_with (at_builtin; refine wpList_append_own _ rfl _ _ 22 rfl w.heap.size 30 i0 (.agg #[.string { data := #[] }, .int .i64 0]) 2 24 Try.underlying22 hi hz0 hz1 hz2 rfl (by decide) _ _ _ rfl HO2.out x2 n2 c2 (flat pc xs2) rfl (by rw [HL2.out]) ?_ ?_ ?_ ?_ ?_ ?_)
    case refine_6 =>
      intro v3 w3 hown hgrow _
      have HX3 := Lib.hid (show Below w.heap.size w w3 from HX.out.grown hgrow HX.out.size (by
        intro k hk
        obtain ⟨_, h | ⟨g, cap, cur, hv, hg, _⟩⟩ := HO2.out
        · rw [h.1] at hk; simp [Value.ownBlock] at hk
        · rw [hv] at hk; simp [Value.ownBlock] at hk; omega))
      have HO3 := Lib.hid (show w3.ownsRow w.heap.size 30 2 v3 (n1 + n2) (flat pc (xs1 ++ xs2)) by
        have e : flat pc (xs1 ++ xs2) = flat pc xs1 ++ flat pc xs2 := by simp [flat]
        rw [e]; exact hown)
      clear hown hgrow
      go_wp2_with fail
      rw [rounds_succ]
      go_wp2_with fail
      go_ret
      exact ⟨v3, rfl, HO3.out, Mor.of_below HX3.out⟩
    all_goals try (first | (exact fun j u hu => HC2.out _ (Mor.of_below HX.out) j u hu) | (exact flat_one xs2) | (unfold maxLen; omega) | omega | (have := HX.out.size; omega) | simp)
  all_goals try (first | (exact fun j u hu => HC1.out _ HM1.out j u hu) | (exact flat_one xs1) | (unfold maxLen; omega) | omega | (have := HM1.out.below.size; omega) | simp)

end Go.Proofs.Ytjolkmpoogpgnaa
