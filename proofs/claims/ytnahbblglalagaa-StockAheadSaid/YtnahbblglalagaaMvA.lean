/- The walks of slices.Grow (from nil) and slices.Concat (of two) at moves. -/
import Derived.Test.YtnahbblglalagaaStockJ
import Derived.Lib.Walk
import Derived.Lib.SliceRun
import Derived.Lib.AppendZerosOnto
import Derived.Handy
import Derived.Deep.DeepAppendRoom
namespace Go.Proofs.Ytnahbblglalagaa
open Go.ChangeShapes Go.WideShapes Go.ChangeAt Go.RowKit Stb
set_option linter.unusedVariables false

theorem info_mv : (Try.prog.info? 29).map (fun i => (i.zero, i.size, i.bytes)) = some (some (.agg #[.int .i64 0, .int .i64 0]), 2, 16) := by kernel_rfl
def GrowPost (w : World) (n : Nat) (e : Ending) (w' : World) : Prop :=
  ∃ G, e = .returned (.slice (some ⟨w.heap.size, 0, none⟩) 0 G) ∧ n ≤ G ∧ w'.ownsRow w.heap.size 29 2 (.slice (some ⟨w.heap.size, 0, none⟩) 0 G) 0 [] ∧ Mor w w'
set_option maxHeartbeats 4000000 in
set_option maxRecDepth 100000 in
theorem grow_nil (n : Nat) (w : World) (h1 : 1 ≤ n) (h2 : n ≤ 17592186043904) :
    Calls Try.prog 26 #[.slice none 0 0, .int .i64 n] w (GrowPost w n) := by
  obtain ⟨i0, hi, hz0, hz1, hz2⟩ := info_parts info_mv
  have h3 : ¬ ((n : Int) < 0) := by omega
  have h4 : wrap64 ((n : Int) - 0) = (n : Int) := by unfold wrap64; omega
  have hrz : ∀ ty, (Builtin.append_ #[22, 3] ty #[.slice none 0 0, .int .i64 (n : Int)]).run Try.prog w =
      .ok (.slice (some ⟨w.heap.size, 0, none⟩) n (grownCap w n 0 29)) (w.drew.alloc (.cells ((#[] : Array Value) ++ Builtin.zeroCells (Value.agg #[.int .i64 0, .int .i64 0]).cells n ++ Builtin.zeroCells (Value.agg #[.int .i64 0, .int .i64 0]).cells (grownCap w n 0 29 - n)) 29)) := fun ty => by
    have h := Lib.run_append_grow_zeros w 22 3 ty 29 i0 _ .i64 .i64 Try.underlying22 Try.underlying3 hi hz0 none 0 0 [] (run_firstCells_none w.drew i0.size 0 0 0) n (by omega) (by omega) (by omega) (by omega)
      (by rw [hz2]; omega)
      (by rw [Nat.zero_add, nextslicecap_zero h1, hz2]; omega)
    rw [Nat.zero_add] at h
    exact h
  obtain ⟨G, hG⟩ : ∃ G, G = grownCap w n 0 29 := ⟨_, rfl⟩
  have hGn : n ≤ G := by rw [hG]; exact grownCap_ge w _ _ _
  have hGm : G ≤ maxLen := by rw [hG]; exact grownCap_le_maxLen w n 0 29 (by unfold maxLen; omega)
  rw [← hG] at hrz
  have hG63 : G ≤ 9223372036854775807 := by unfold maxLen at hGm; omega
  clear hG
  have HFin := Lib.hid (show GrowPost w n (.returned (.slice (some ⟨w.heap.size, 0, none⟩) 0 G)) (w.alloc (.cells (Builtin.zeroCells #[.int .i64 0, .int .i64 0] n ++ Builtin.zeroCells #[.int .i64 0, .int .i64 0] (G - n)) 29)).drew from by
    refine ⟨G, rfl, hGn, ⟨rfl, .inr ⟨w.heap.size, G, _, rfl, Nat.le_refl _, heap_alloc_new w _, Nat.zero_le _, hGm, ?_, by simp⟩⟩, (Mor.refl _).alloc.drew⟩
    rw [Array.size_append, size_zeroCells, size_zeroCells]
    simp
    omega)
  go_enter Try.func26, Try.ntmps26
  go_wp2_with (at_builtin; refine Lib.wpList_append_run _ rfl _ _ _ _ rfl _ _ rfl rfl _ _ (hrz _) ?_)
  all_goals (go_ret; exact HFin.out)
set_option maxHeartbeats 400000 in
theorem grow_zero (w : World) : Calls Try.prog 26 #[.slice none 0 0, .int .i64 0] w fun e w' => e = .returned (.slice none 0 0) ∧ Mor w w' := by
  go_enter Try.func26, Try.ntmps26
  go_wp2
  go_ret
  exact ⟨rfl, by repeat (first | exact Mor.refl _ | apply Mor.alloc | apply Mor.more | apply Mor.drewN | apply Mor.drew)⟩
theorem lc_len (x : Pr) : (lc x).length = 2 := rfl
theorem pi_flat {w : World} {A : Option Addr} {xs : List Pr} (h : Pi w A xs) : ∀ ad, A = some ad → ∀ j u, (flat lc xs)[j]? = some u → w.cell? (ad.add j) = some u := by
  intro x e j u hu
  subst e
  have hl := flat_len lc 2 lc_len xs
  have hj : j < xs.length * 2 := by
    rcases Nat.lt_or_ge j (flat lc xs).length with h | h
    · omega
    · rw [List.getElem?_eq_none h] at hu; cases hu
  have hk : j / 2 < xs.length := by omega
  obtain ⟨y, hy, _, c1, c2⟩ := h.at_ (j / 2) hk
  injection hy with hy
  subst hy
  have hg := flat_get lc 2 lc_len xs (j / 2) (j % 2) hk (by omega) (.int .i64 0)
  rw [show j / 2 * 2 + j % 2 = j by omega, List.getD_eq_getElem?_getD, hu] at hg
  have e1 : px xs (j / 2) = xs[j / 2].1 ∧ py xs (j / 2) = xs[j / 2].2 := by
    unfold px py; rw [List.getD_eq_getElem?_getD, List.getElem?_eq_getElem hk]; exact ⟨rfl, rfl⟩
  obtain ⟨e1, e2⟩ := e1
  rcases Nat.mod_two_eq_zero_or_one j with hr | hr
  · rw [hr] at hg
    rw [show x.add j = x.add (j / 2 * 2) by congr 1; omega, c1, e1]
    simpa [lc] using hg.symm
  · rw [hr] at hg
    rw [show x.add j = (x.add (j / 2 * 2)).add 1 by rw [Addr.add_add]; congr 1; omega, Addr.add_succ' (x.add (j / 2 * 2)) 0]
    rw [Nat.zero_add, c2, e2]
    simpa [lc] using hg.symm
theorem flat_one (xs : List Pr) : ∀ u ∈ flat lc xs, u.oneCell' = true := by
  intro u hu
  simp only [flat, List.mem_flatMap, lc, List.mem_cons, List.not_mem_nil, or_false] at hu
  obtain ⟨x, _, rfl | rfl⟩ := hu <;> rfl
theorem wpList_append_opt2 {P : Program} {w : World} {ops : Array Oper} {rest : List Oper} {o : Oper} {a : Act} {Q : Exit → Act → World → Prop} (hgd : o.guard = none) (s x : Operand) (t : TypeId)
    (ho : o.op = .call { callee := .builtin .append, args := #[s, x], argTypes := #[t, t] })
    (base : Nat) (e : TypeId) (i : TypeInfo) (size : Nat) (ht : P.underlying t = some (.slice e)) (hi : P.info? e = some i) (hsize : i.size = size)
    (g : Nat) (n cap : Nat) (xs : List Value) (hs : a.eval s = .slice (some ⟨g, 0, none⟩) n cap) (hown : w.ownsRow base e size (.slice (some ⟨g, 0, none⟩) n cap) n xs)
    (A : Option Addr) (m c : Nat) (news : List Value) (hx : a.eval x = .slice A m c) (hA : A = none → m = 0) (hl : news.length = m * size) (hnews : ∀ ad, A = some ad → ∀ j u, news[j]? = some u → w.cell? (ad.add j) = some u) (h1 : ∀ u ∈ news, u.oneCell' = true)
    (hroom : n + m ≤ cap)
    (h : ∀ w', w'.ownsRow base e size (.slice (some ⟨g, 0, none⟩) (n + m) cap) (n + m) (xs ++ news) → w.grownBy w' (some g) → wpList P ops Q rest (a.put o.dst (.slice (some ⟨g, 0, none⟩) (n + m) cap)) w') : wpList P ops Q (o :: rest) a w := by
  have hcap : n ≤ cap := by omega
  cases A with
  | none =>
    have h0 := hA rfl
    subst h0
    have hnil : news = [] := List.eq_nil_of_length_eq_zero (by rw [hl, Nat.zero_mul])
    subst hnil
    refine wpList_plain hgd fun _ hK => ?_
    have hr := run_append_nilsrc (P := P) w t o.type e i ht hi ⟨g, 0, none⟩ n cap c hcap
    unfold Oper.wp execOp
    simp only [ho, resolve, invoke, builtin, Sem.run_bind, Sem.run_pure, Result.andThen_ok, List.map_toArray, List.map_cons, List.map_nil, hs, hx, hr]
    exact hK _ _ (h w (by rw [List.append_nil]; exact hown) ⟨rfl, rfl, rfl, Nat.le_refl _, fun _ _ _ => rfl⟩)
  | some ad => exact wpList_append_own_spare w hgd s x t ho base e i size ht hi hsize g n cap xs hs hown ad m c news hx hl (hnews ad rfl) h1 hroom h

set_option maxRecDepth 100000 in
set_option maxHeartbeats 3200000 in
theorem concat_mv (g : Nat) (A1 A2 : Option Addr) (n1 c1 n2 c2 : Nat) (xs1 xs2 : List Pr) (w : World) (T : TypeId) (hb : Blk w g T #[.slice A1 n1 c1, .slice A2 n2 c2]) (h1 : Pi w A1 xs1) (h2 : Pi w A2 xs2) (l1 : xs1.length = n1) (l2 : xs2.length = n2) (e1 : A1 = none → n1 = 0) (e2 : A2 = none → n2 = 0) (hl : 1 ≤ n1 + n2) (hm : n1 + n2 ≤ 17592186043904) :
    Calls Try.prog 9 #[.slice (some ⟨g, 0, none⟩) 2 2] w fun e w' => ∃ A c, e = .returned (.slice A (n1 + n2) c) ∧ Pi w' A (xs1 ++ xs2) ∧ Mor w w' := by
  obtain ⟨i0, hi, hz0, hz1, hz2⟩ := info_parts info_mv
  have b0 := hb.cell 0
  have b1 := hb.cell 1
  have bl := hb.lt
  simp at b0 b1
  have HB := Lib.hid (fun w' (h : Mor w w') => hb.below h.below hb.lt)
  have HC1 := Lib.hid (fun (W : World) (hW : Mor w W) => pi_flat (h1.mor hW))
  have HC2 := Lib.hid (fun (W : World) (hW : Mor w W) => pi_flat (h2.mor hW))
  have HL1 := Lib.hid (show (flat lc xs1).length = n1 * 2 by rw [flat_len lc 2 lc_len, l1])
  have HL2 := Lib.hid (show (flat lc xs2).length = n2 * 2 by rw [flat_len lc 2 lc_len, l2])
  have HG := Lib.hid (fun w => grow_nil (n1 + n2) w hl hm)
  rw [show ((n1 + n2 : Nat) : Int) = (n1 : Int) + (n2 : Int) by omega] at HG
  have p0 : (0 : Int) ≤ (n1 : Int) := by omega
  have p1 : (0 : Int) ≤ (n1 : Int) + (n2 : Int) := by omega
  have p2 : ¬ (n1 : Int) < 0 := by omega
  have p3 : ¬ (n1 : Int) + (n2 : Int) < 0 := by omega
  clear hb h1 h2 l1 l2
  go_enter Try.func9, Try.ntmps9
  go_wp2
  refine wp_loop_rounds 3 ?_
  rw [rounds_succ]
  go_wp2
  rw [rounds_succ]
  go_wp2
  rw [rounds_succ]
  go_wp2_with ((go_at_call 26; (with_reducible refine (HG.out _).mono ?_); rintro e w1 ⟨G, rfl, hGn, hown, hm1⟩))
  have HO := Lib.hid hown
  have HM1 := Lib.hid hm1
  have hB1 := HB.out _ hm1
  have d0 := hB1.cell 0
  have d1 := hB1.cell 1
  have dl := hB1.lt
  simp at d0 d1
  clear hown hm1 b0 b1 hB1
  refine wp_loop_rounds 3 ?_
  rw [rounds_succ]
  go_wp2_with (at_builtin; refine wpList_append_opt2 rfl _ _ 22 rfl w.heap.size 29 i0 2 Try.underlying22 hi hz1 _ 0 G [] rfl HO.out A1 n1 c1 (flat lc xs1) rfl e1 (by rw [HL1.out]) ?_ ?_ ?_ ?_)
  case refine_4 =>
    intro w2 hown hgrow
    have HX := Lib.hid (show Below w.heap.size w w2 from HM1.out.below.grown hgrow (by have := HM1.out.below.size; omega) (by intro k hk; injection hk with hk; omega))
    have HO2 := Lib.hid (show w2.ownsRow w.heap.size 29 2 (.slice (some ⟨w.heap.size, 0, none⟩) n1 G) n1 (flat lc xs1) by simpa using hown)
    have hB2 := HB.out _ (Mor.of_below HX.out)
    have e0 := hB2.cell 0
    have e1' := hB2.cell 1
    have el := hB2.lt
    simp at e0 e1'
    clear hown hgrow d0 d1 dl hB2
    go_wp2_with fail
    rw [rounds_succ]
    go_wp2_with (at_builtin; refine wpList_append_opt2 rfl _ _ 22 rfl w.heap.size 29 i0 2 Try.underlying22 hi hz1 _ n1 G _ rfl HO2.out A2 n2 c2 (flat lc xs2) rfl e2 (by rw [HL2.out]) ?_ ?_ ?_ ?_)
    case refine_4 =>
      intro w3 hown hgrow
      have HX3 := Lib.hid (show Below w.heap.size w w3 from HX.out.grown hgrow HX.out.size (by
        intro k hk
        injection hk with hk; omega))
      have HO3 := Lib.hid (show w3.ownsRow w.heap.size 29 2 (.slice (some ⟨w.heap.size, 0, none⟩) (n1 + n2) G) (n1 + n2) (flat lc (xs1 ++ xs2)) by
        have e : flat lc (xs1 ++ xs2) = flat lc xs1 ++ flat lc xs2 := by simp [flat]
        rw [e]; exact hown)
      clear hown hgrow
      go_wp2_with fail
      rw [rounds_succ]
      go_wp2_with fail
      go_ret
      exact ⟨_, G, rfl, own_pl HO3.out, Mor.of_below HX3.out⟩
    all_goals try (first | (exact HC2.out _ (Mor.of_below HX.out)) | (exact flat_one xs2) | (unfold maxLen; omega) | omega | (have := HX.out.size; omega) | simp)
  all_goals try (first | (exact HC1.out _ HM1.out) | (exact flat_one xs1) | (unfold maxLen; omega) | omega | (have := HM1.out.below.size; omega) | simp)

set_option maxRecDepth 100000 in
set_option maxHeartbeats 3200000 in
theorem concat_zero (g : Nat) (A1 A2 : Option Addr) (c1 c2 : Nat) (w : World) (T : TypeId) (hb : Blk w g T #[.slice A1 0 c1, .slice A2 0 c2]) :
    Calls Try.prog 9 #[.slice (some ⟨g, 0, none⟩) 2 2] w fun e w' => ∃ A c, e = .returned (.slice A 0 c) ∧ Pi w' A [] ∧ Mor w w' := by
  obtain ⟨i0, hi, hz0, hz1, hz2⟩ := info_parts info_mv
  have b0 := hb.cell 0
  have b1 := hb.cell 1
  have bl := hb.lt
  simp at b0 b1
  have HB := Lib.hid (fun w' (h : Mor w w') => hb.below h.below hb.lt)
  have hz : ∀ (A : Option Addr) (c : Nat) ty w', (Builtin.append_ #[22, 22] ty #[.slice none 0 0, .slice A 0 c]).run Try.prog w' = .ok (.slice none 0 0) w' := fun A c ty w' => run_append_none2 w' _ _ ty _ i0 Try.underlying22 Try.underlying22 hi A c
  clear hb
  go_enter Try.func9, Try.ntmps9
  go_wp2
  refine wp_loop_rounds 3 ?_
  rw [rounds_succ]
  go_wp2
  rw [rounds_succ]
  go_wp2
  rw [rounds_succ]
  go_wp2_with fail
  refine (grow_zero _).mono ?_
  rintro e w1 ⟨rfl, hm1⟩
  have HM1 := Lib.hid hm1
  have hB1 := HB.out _ hm1
  have d0 := hB1.cell 0
  have d1 := hB1.cell 1
  have dl := hB1.lt
  simp at d0 d1
  clear hm1 b0 b1 hB1
  go_wp2_with fail
  refine wp_loop_rounds 3 ?_
  rw [rounds_succ]
  go_wp2_with (at_builtin; refine Lib.wpList_append_run _ rfl _ _ _ _ rfl _ _ rfl rfl _ _ (hz _ _ _ _) ?_)
  rw [rounds_succ]
  go_wp2_with (at_builtin; refine Lib.wpList_append_run _ rfl _ _ _ _ rfl _ _ rfl rfl _ _ (hz _ _ _ _) ?_)
  rw [rounds_succ]
  go_wp2_with fail
  go_ret
  exact ⟨none, 0, rfl, .inl rfl, HM1.out⟩

end Go.Proofs.Ytnahbblglalagaa
