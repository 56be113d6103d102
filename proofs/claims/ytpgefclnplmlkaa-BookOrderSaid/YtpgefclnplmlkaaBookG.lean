/- What the walk of book.Post wants: entry.Same, stores into a book's variable, rows that stay. -/
import Derived.Test.YtpgefclnplmlkaaBookE
import Derived.Test.YtpgefclnplmlkaaBookF
import Derived.Test.YtpgefclnplmlkaaInsA
import Derived.BigQuiet
namespace Go.Proofs.Ytpgefclnplmlkaa
open Go.ChangeShapes Go.WideShapes Go.ChangeAt Go.RowKit Go.PlainAid
set_option linter.unusedVariables false

theorem drewN2 (w : World) (m n : Nat) : (w.drewN m).drewN n = w.drewN (m + n) := by simp [World.drewN, Nat.add_assoc]
/-- how far two lists are the same -/
def eqUp (xs ys : List Ln) (k : Nat) : Prop := ∀ i, i < k → cd xs i = cd ys i ∧ am xs i = am ys i
theorem eq_of_up {xs ys : List Ln} {n : Nat} (h1 : xs.length = n) (h2 : ys.length = n) (h : eqUp xs ys n) : xs = ys := by
  apply List.ext_getElem (by omega)
  intro i hi hj
  obtain ⟨a, b⟩ := h i (by omega)
  rw [(cd_at xs i hi).1, (cd_at ys i hj).1] at a
  rw [(cd_at xs i hi).2, (cd_at ys i hj).2] at b
  exact Prod.ext a b
theorem up_of_ne {xs ys : List Ln} {k : Nat} (h : ¬ (cd xs k = cd ys k ∧ am xs k = am ys k)) : xs ≠ ys := fun e => h (by subst e; exact ⟨rfl, rfl⟩)

set_option maxRecDepth 100000 in
set_option maxHeartbeats 1600000 in
theorem equal_dec (A A' : Option Addr) (n c n' c' : Nat) (xs ys : List Ln) (w : World) (hr : Si w A xs) (hr' : Si w A' ys) (hn : xs.length = n) (hn' : ys.length = n') (hl : n ≤ maxLen) :
    Calls Try.prog 54 #[.slice A n c, .slice A' n' c'] w fun e w' => e = .returned (.bool (decide (xs = ys))) ∧ ∃ k, w' = w.drewN k := by
  unfold maxLen at hl
  have HR := Lib.hid hr
  have HR' := Lib.hid hr'
  have HN := Lib.hid hn
  have HN' := Lib.hid hn'
  clear hr hr' hn hn'
  by_cases hnn : n = n'
  · subst hnn
    go_enter Try.func54, Try.ntmps54
    go_wp2
    go_loopw [13] (fun i wr => ∃ k m : Nat, k ≤ n ∧ i = .int .i64 k ∧ Hid (eqUp xs ys k) ∧ wr = w.drewN m) (fun i _ => n - (intOf i).toNat)
    case atStart => exact ⟨0, 0, Nat.zero_le _, rfl, Lib.hid (fun i hi => absurd hi (Nat.not_lt_zero _)), rfl⟩
    case round =>
      obtain ⟨k, m, hk, rfl, HU, rfl⟩ := hrel
      by_cases hlt : k < n
      · obtain ⟨x, hA, hxb, c1, c2⟩ := HR.out.at_ k (by rw [HN.out]; exact hlt)
        obtain ⟨y, hA', hyb, d1, d2⟩ := HR'.out.at_ k (by rw [HN'.out]; exact hlt)
        subst hA hA'
        have HNe := Lib.hid (fun h : ¬ (cd xs k = cd ys k ∧ am xs k = am ys k) => up_of_ne h)
        have HYe := Lib.hid (fun h : (cd xs k = cd ys k ∧ am xs k = am ys k) => show eqUp xs ys (k + 1) from fun i hi => by
          by_cases e : i = k
          · subst e; exact h
          · exact HU.out i (by omega))
        generalize cd xs k = s at *
        generalize am xs k = a at *
        generalize cd ys k = t at *
        generalize am ys k = b at *
        have hi : ((k : Nat) : Int) < (n : Int) := by omega
        by_cases he : s = t ∧ a = b
        · have HY := Lib.hid (HYe.out he)
          obtain ⟨rfl, rfl⟩ := he
          go_wp2
          go_quiet (fail)
          go_wp2
          go_roundw
          case rel => exact ⟨k + 1, _, by omega, by go_num, HY, rfl⟩
          case measure => simp [intOf]; omega
        · have HF := Lib.hid (decide_eq_false (HNe.out he))
          by_cases hs : s = t
          · subst hs
            have hab : (a == b) = false := by
              cases h : (a == b)
              · rfl
              · simp at h; exact absurd ⟨rfl, h⟩ he
            go_wp2
            go_quiet (fail)
            go_wp2
            go_ret
            exact ⟨by rw [HF.out] <;> rfl, _, drewN2 _ _ _⟩
          · have hst : (s.toList == t.toList) = false := by rw [str_eq]; exact decide_eq_false hs
            go_wp2
            go_quiet (fail)
            go_wp2
            go_ret
            exact ⟨by rw [HF.out] <;> rfl, _, drewN2 _ _ _⟩
      · have e : k = n := by omega
        subst e
        have HF := Lib.hid (decide_eq_true (eq_of_up HN.out HN'.out HU.out))
        go_wp2
        go_ret
        exact ⟨by rw [HF.out] <;> rfl, _, rfl⟩
  · have HF := Lib.hid (decide_eq_false (show xs ≠ ys from fun e => hnn (by rw [← HN.out, ← HN'.out, e])))
    have hb : ((n : Int) != (n' : Int)) = true := by simp; omega
    go_enter Try.func54, Try.ntmps54
    go_wp2
    go_ret
    exact ⟨by rw [HF.out] <;> rfl, 0, rfl⟩

theorem en_eq (x y : En) : decide (x = y) = (decide (x.key = y.key) && decide (x.day = y.day) && decide (x.ls = y.ls)) := by
  by_cases h1 : x.key = y.key <;> by_cases h2 : x.day = y.day <;> by_cases h3 : x.ls = y.ls
  · rw [decide_eq_true (En.eq h1 h2 h3)]; simp [h1, h2, h3]
  all_goals (rw [decide_eq_false (fun e => by subst e; first | exact h1 rfl | exact h2 rfl | exact h3 rfl)]; simp [h1, h2, h3])

set_option maxHeartbeats 1600000 in
theorem esame_any (x y : En) (A A' : Option Addr) (n c n' c' : Nat) (w : World) (hx : Lq w A n c x.ls) (hy : Lq w A' n' c' y.ls) :
    Calls Try.prog 49 #[.agg #[.string x.key, .int .i64 x.day, .slice A n c], .agg #[.string y.key, .int .i64 y.day, .slice A' n' c']] w fun e w' => e = .returned (.bool (decide (x = y))) ∧ Mor w w' := by
  have HE := Lib.hid (fun w' (h : Mor w w') => equal_dec A A' n c n' c' x.ls y.ls w' (hx.si.mor h) (hy.si.mor h) hx.length hy.length (Nat.le_trans hx.le hx.max))
  have HD := Lib.hid (en_eq x y)
  clear hx hy
  generalize decide (x = y) = r at *
  generalize decide (x.ls = y.ls) = b at *
  generalize x.key = s at *
  generalize y.key = t at *
  generalize x.day = d at *
  generalize y.day = d' at *
  by_cases h1 : s = t
  · subst h1
    by_cases h2 : d = d'
    · subst h2
      go_enter Try.func49, Try.ntmps49
      go_wp2_with ((go_at_call 54; (with_reducible refine (HE.out _ ((Mor.refl _).alloc.alloc)).mono ?_); rintro e w1 ⟨rfl, m, rfl⟩))
      go_ret
      exact ⟨by rw [HD.out] <;> simp, (Mor.refl _).alloc.alloc.drewN⟩
    · have hd : (d == d') = false := by simpa using h2
      go_enter Try.func49, Try.ntmps49
      go_wp2_with fail
      go_ret
      exact ⟨by rw [HD.out] <;> simp [h2], (Mor.refl _).alloc.alloc⟩
  · have hst : (s.toList == t.toList) = false := by rw [str_eq]; exact decide_eq_false h1
    go_enter Try.func49, Try.ntmps49
    go_wp2_with fail
    go_ret
    exact ⟨by rw [HD.out] <;> simp [h1], (Mor.refl _).alloc.alloc⟩

theorem put3 {w W w9 : World} {bR : Nat} {T : TypeId} {a b c : Value} (u0 u1 u2 : Value) (hM : Mor w W) (hR : Bk W bR T #[a, b, c]) (hb : w.heap.size ≤ bR) (h : w9 = ((W.setCell ⟨bR, 0, none⟩ u0).setCell ⟨bR, 1, none⟩ u1).setCell ⟨bR, 2, none⟩ u2) :
    (w9.cell? ⟨bR, 0, none⟩ = some u0 ∧ w9.cell? ⟨bR, 1, none⟩ = some u1 ∧ w9.cell? ⟨bR, 2, none⟩ = some u2) ∧ Mor w w9 := by
  have hB := ((hR.set_ 0 u0).set_ 1 u1).set_ 2 u2
  rw [← h] at hB
  refine ⟨⟨by rw [hB.cell]; rfl, by rw [hB.cell]; rfl, by rw [hB.cell]; rfl⟩, ?_⟩
  rw [h]
  exact Mor.of_below (((hM.below.setCell (p := ⟨bR, 0, none⟩) hb _).setCell (p := ⟨bR, 1, none⟩) hb _).setCell (p := ⟨bR, 2, none⟩) hb _)
theorem OwnE.setlt {w : World} {base g i : Nat} {u : Value} {q : Ev} {x : En} (h : OwnE w base q x) (hg : g < base) : OwnE (w.setCell ⟨g, i, none⟩ u) base q x := ⟨h.key, h.day, own_set h.row hg, h.len, h.ks, h.str⟩
theorem OwnE.setT {w : World} {base g i : Nat} {u : Value} {q : Ev} {x : En} {T : TypeId} {cs : Array Value} (h : OwnE w base q x) (hb : Bk w g T cs) (hT : 45 ≠ T) : OwnE (w.setCell ⟨g, i, none⟩ u) base q x := ⟨h.key, h.day, own_setT h.row hb hT, h.len, h.ks, h.str⟩
theorem OwnEs.setlt {w : World} {base g i m : Nat} {u v : Value} {qs : List Ev} {es : List En} (h : OwnEs w base v m qs es) (hg : g < base) : OwnEs (w.setCell ⟨g, i, none⟩ u) base v m qs es := ⟨own_set h.row hg, h.ql, h.el, fun i hi => (h.ent i hi).setlt hg⟩
theorem OwnEs.setT {w : World} {base g i m : Nat} {u v : Value} {qs : List Ev} {es : List En} {cs : Array Value} (h : OwnEs w base v m qs es) (hb : Bk w g 25 cs) : OwnEs (w.setCell ⟨g, i, none⟩ u) base v m qs es := ⟨own_setT h.row hb (by decide), h.ql, h.el, fun i hi => (h.ent i hi).setT hb (by decide)⟩
theorem OwnB.setlt {w : World} {base g i n m : Nat} {u vA vX : Value} {b : Bok} (h : OwnB w base vA vX n m b) (hg : g < base) : OwnB (w.setCell ⟨g, i, none⟩ u) base vA vX n m b := by
  obtain ⟨qs, hq⟩ := h.es
  exact ⟨own_set h.ac hg, h.al, h.astr, qs, hq.setlt hg⟩
theorem OwnB.setT {w : World} {base g i n m : Nat} {u vA vX : Value} {b : Bok} {cs : Array Value} (h : OwnB w base vA vX n m b) (hb : Bk w g 25 cs) : OwnB (w.setCell ⟨g, i, none⟩ u) base vA vX n m b := by
  obtain ⟨qs, hq⟩ := h.es
  exact ⟨own_setT h.ac hb (by decide), h.al, h.astr, qs, hq.setT hb⟩
theorem OwnE.base {w : World} {base base' : Nat} {q : Ev} {x : En} (h : OwnE w base q x) (hb : base' ≤ base) : OwnE w base' q x := ⟨h.key, h.day, own_base h.row hb, h.len, h.ks, h.str⟩
theorem OwnEs.base {w : World} {base base' m : Nat} {v : Value} {qs : List Ev} {es : List En} (h : OwnEs w base v m qs es) (hb : base' ≤ base) : OwnEs w base' v m qs es := ⟨own_base h.row hb, h.ql, h.el, fun i hi => (h.ent i hi).base hb⟩
theorem OwnB.base {w : World} {base base' n m : Nat} {vA vX : Value} {b : Bok} (h : OwnB w base vA vX n m b) (hb : base' ≤ base) : OwnB w base' vA vX n m b := by
  obtain ⟨qs, hq⟩ := h.es
  exact ⟨own_base h.ac hb, h.al, h.astr, qs, hq.base hb⟩
theorem Bk.growT {w w' : World} {B g s n : Nat} {t T : TypeId} {cs : Array Value} {v : Value} {xs : List Value} (h : Bk w g t cs) (hv : w.ownsRow B T s v n xs) (hg : w.grownBy w' v.ownBlock) (hT : t ≠ T) : Bk w' g t cs := by
  refine (hg.block g h.lt (fun e => ?_)).trans h
  obtain ⟨_, _, cur, hc⟩ := own_blk hv e.symm
  unfold Bk at h
  rw [h] at hc
  injection hc with hc
  injection hc with _ hc _
  exact hT hc
/-- lists behind an insertion -/
theorem getD_ins {α : Type} (l : List α) (x d : α) (i k : Nat) (hi : i ≤ l.length) : (l.take i ++ x :: l.drop i).getD k d = if k < i then l.getD k d else if k = i then x else l.getD (k - 1) d := by
  have ht : (l.take i).length = i := by rw [List.length_take]; omega
  rw [List.getD_eq_getElem?_getD]
  by_cases h1 : k < i
  · rw [if_pos h1, List.getElem?_append_left (by omega), List.getElem?_take, if_pos h1, List.getD_eq_getElem?_getD]
  · rw [if_neg h1, List.getElem?_append_right (by omega), ht]
    by_cases h2 : k = i
    · subst h2; rw [if_pos rfl, Nat.sub_self]; rfl
    · rw [if_neg h2]
      obtain ⟨j, hj⟩ : ∃ j, k - i = j + 1 := ⟨k - i - 1, by omega⟩
      rw [hj, List.getElem?_cons_succ, List.getElem?_drop, List.getD_eq_getElem?_getD, show i + j = k - 1 by omega]
theorem OwnEs.insert {w : World} {base m : Nat} {v' : Value} {qs : List Ev} {es : List En} {q : Ev} {x : En} (i : Nat) (hi : i ≤ m) (hq : qs.length = m) (he : es.length = m) (hrow : w.ownsRow base 42 3 v' (m + 1) (flat ec (qs.take i ++ q :: qs.drop i))) (hent : ∀ k, k < m → OwnE w base (qe qs k) (ne es k)) (hx : OwnE w base q x) :
    OwnEs w base v' (m + 1) (qs.take i ++ q :: qs.drop i) (es.take i ++ x :: es.drop i) := by
  refine ⟨hrow, ?_, ?_, fun k hk => ?_⟩
  · rw [List.length_append, List.length_cons, List.length_take, List.length_drop]; omega
  · rw [List.length_append, List.length_cons, List.length_take, List.length_drop]; omega
  · have e1 : qe (qs.take i ++ q :: qs.drop i) k = if k < i then qe qs k else if k = i then q else qe qs (k - 1) := getD_ins qs q ev0 i k (by omega)
    have e2 : ne (es.take i ++ x :: es.drop i) k = if k < i then ne es k else if k = i then x else ne es (k - 1) := getD_ins es x en0 i k (by omega)
    rw [e1, e2]
    by_cases h1 : k < i
    · rw [if_pos h1, if_pos h1]; exact hent k (by omega)
    · rw [if_neg h1, if_neg h1]
      by_cases h2 : k = i
      · rw [if_pos h2, if_pos h2]; exact hx
      · rw [if_neg h2, if_neg h2]; exact hent (k - 1) (by omega)

end Go.Proofs.Ytpgefclnplmlkaa
