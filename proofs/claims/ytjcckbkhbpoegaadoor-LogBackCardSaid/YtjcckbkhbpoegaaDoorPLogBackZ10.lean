/- How a book lies in memory, and how one that came in reads. -/
import Derived.Test.YtjcckbkhbpoegaaDoorPLogBackZ1
import Derived.Test.YtjcckbkhbpoegaaDoorPLogBackZ2
import Derived.Test.YtjcckbkhbpoegaaDoorPLogBackZ3
import Derived.Test.YtjcckbkhbpoegaaDoorPLogBackZ4
import Derived.Test.YtjcckbkhbpoegaaDoorPLogBackZ5
import Derived.Test.YtjcckbkhbpoegaaDoorPLogBackZ6
import Derived.Test.YtjcckbkhbpoegaaDoorPLogBackZ9
import Derived.Test.YtjcckbkhbpoegaaDoorRows
import Derived.BigQuiet
import Derived.DataElems
import Derived.Deep.LoopGhost
import Derived.Deep.QuietTactic
import Derived.Deep.SlicePairs
import Derived.Deep.Slices
import Derived.Deep.Strs
import Derived.Handy
import Derived.Laws.Cover1
import Derived.Lib.Bytealg
import Derived.Lib.Hide
import Derived.OpenShut
import Derived.Outline
import Derived.PlainAid
import Derived.ProofKit
import Derived.RegionTactic
import Derived.Shelf.Abstract
import Derived.Sort.Walk0
import Derived.WalkKit
namespace Go.Proofs.YtjcckbkhbpoegaaDoor
open Go.ChangeShapes Go.WideShapes Go.ChangeAt Go.RowKit Go.PlainAid
set_option linter.unusedVariables false

/-- a slice of pairs that reads xs -/
structure Lq (w : World) (A : Option Addr) (n c : Nat) (xs : List Ln) : Prop where
  si : Si w A xs
  length : xs.length = n
  le : n ≤ c
  max : c ≤ maxLen
  nil : A = none → n = 0
  str : ∀ i, i < n → (cd xs i).size ≤ maxLen
theorem Lq.mor {w w' : World} {A : Option Addr} {n c : Nat} {xs : List Ln} (h : Lq w A n c xs) (hm : Mor w w') : Lq w' A n c xs :=
  ⟨h.si.mor hm, h.length, h.le, h.max, h.nil, h.str⟩
theorem IsLn.lq {w : World} {A : Option Addr} {n c : Nat} {xs : List Ln} (h : IsLn w A n c xs) : Lq w A n c xs := ⟨h.si, h.length, h.le, h.max, h.nil, h.str⟩
/-- entries that the slice at X reads -/
def Es (w : World) (X : Option Addr) (es : List En) : Prop :=
  es = [] ∨ ∃ x, X = some x ∧ x.block < w.heap.size ∧ ∀ i, i < es.length → (ne es i).key.size ≤ maxLen ∧ ∃ A n c, w.cell? (x.add (i * 3)) = some (.string (ne es i).key) ∧
    w.cell? ⟨(x.add (i * 3)).block, (x.add (i * 3)).off + 1, none⟩ = some (.int .i64 (ne es i).day) ∧ w.cell? ⟨(x.add (i * 3)).block, (x.add (i * 3)).off + 2, none⟩ = some (.slice A n c) ∧ Lq w A n c (ne es i).ls
theorem Es.mor {w w' : World} {X : Option Addr} {es : List En} (h : Es w X es) (hm : Mor w w') : Es w' X es := by
  rcases h with h | ⟨x, e, hb, hc⟩
  · exact .inl h
  · have hB := hm.below
    refine .inr ⟨x, e, by have := hB.size; omega, fun i hi => ?_⟩
    obtain ⟨hk, A, n, c, c1, c2, c3, hl⟩ := hc i hi
    exact ⟨hk, A, n, c, (hB.cell (p := x.add (i * 3)) (by rw [addb]; exact hb)).trans c1, (hB.cell (p := ⟨(x.add (i * 3)).block, (x.add (i * 3)).off + 1, none⟩) (by rw [addb]; exact hb)).trans c2,
      (hB.cell (p := ⟨(x.add (i * 3)).block, (x.add (i * 3)).off + 2, none⟩) (by rw [addb]; exact hb)).trans c3, hl.mor hm⟩
theorem Es.at_ {w : World} {X : Option Addr} {es : List En} (h : Es w X es) (i : Nat) (hi : i < es.length) :
    ∃ x A n c, X = some x ∧ x.block < w.heap.size ∧ (ne es i).key.size ≤ maxLen ∧ w.cell? (x.add (i * 3)) = some (.string (ne es i).key) ∧
      w.cell? ⟨(x.add (i * 3)).block, (x.add (i * 3)).off + 1, none⟩ = some (.int .i64 (ne es i).day) ∧ w.cell? ⟨(x.add (i * 3)).block, (x.add (i * 3)).off + 2, none⟩ = some (.slice A n c) ∧ Lq w A n c (ne es i).ls := by
  rcases h with h | ⟨x, e, hb, hc⟩
  · subst h; simp at hi
  · obtain ⟨hk, A, n, c, c1, c2, c3, hl⟩ := hc i hi
    exact ⟨x, A, n, c, e, hb, hk, c1, c2, c3, hl⟩
/-- a book -/
structure Bq (w : World) (A : Option Addr) (n c : Nat) (X : Option Addr) (m k : Nat) (b : Bok) : Prop where
  ac : Lq w A n c b.ac
  es : Es w X b.en
  length : b.en.length = m
  le : m ≤ k
  max : k ≤ maxLen
  nil : X = none → m = 0
theorem Bq.mor {w w' : World} {A : Option Addr} {n c : Nat} {X : Option Addr} {m k : Nat} {b : Bok} (h : Bq w A n c X m k b) (hm : Mor w w') : Bq w' A n c X m k b :=
  ⟨h.ac.mor hm, h.es.mor hm, h.length, h.le, h.max, h.nil⟩
set_option maxRecDepth 20000
/- how they read that came in -/
instance : Inhabited En := ⟨en0⟩
end Go.Proofs.YtjcckbkhbpoegaaDoor

/- When are two entries the same: slices.Equal at lines, talref.Same. -/
namespace Go.Proofs.YtjcckbkhbpoegaaDoor
open Go Go.ChangeShapes Go.WideShapes Go.ChangeAt Go.RowKit Go.PlainAid
set_option linter.unusedVariables false

theorem drewN2 (w : World) (m n : Nat) : (w.drewN m).drewN n = w.drewN (m + n) := by simp [World.drewN, Nat.add_assoc]
/-- how far two lists are the same -/
def eqUp (xs ys : List Ln) (k : Nat) : Prop := ∀ i, i < k → cd xs i = cd ys i ∧ am xs i = am ys i
theorem eq_of_up {xs ys : List Ln} {n : Nat} (h1 : xs.length = n) (h2 : ys.length = n) (h : eqUp xs ys n) : xs = ys := by
  apply List.ext_getElem (by omega)
  intro i hi hj
  obtain ⟨a, b⟩ := h i (by omega)
  rw [(cd_at xs i hi).1, (cd_at ys i hj).1] at a
  rw [(cd_at xs i hi).2, (cd_at ys i hj).2] at b
  exact Prod.ext a b
theorem up_of_ne {xs ys : List Ln} {k : Nat} (h : ¬ (cd xs k = cd ys k ∧ am xs k = am ys k)) : xs ≠ ys := fun e => h (by subst e; exact ⟨rfl, rfl⟩)

set_option maxRecDepth 100000 in
set_option maxHeartbeats 1600000 in
theorem equal_dec (A A' : Option Addr) (n c n' c' : Nat) (xs ys : List Ln) (w : World) (hr : Si w A xs) (hr' : Si w A' ys) (hn : xs.length = n) (hn' : ys.length = n') (hl : n ≤ maxLen) :
    Calls Tryd.prog 20 #[.slice A n c, .slice A' n' c'] w fun e w' => e = .returned (.bool (decide (xs = ys))) ∧ ∃ k, w' = w.drewN k := by
  unfold maxLen at hl
  have HR := Lib.hid hr
  have HR' := Lib.hid hr'
  have HN := Lib.hid hn
  have HN' := Lib.hid hn'
  clear hr hr' hn hn'
  by_cases hnn : n = n'
  · subst hnn
    go_enter Tryd.func20, Tryd.ntmps20
    go_wp2
    go_loopw [13] (fun i wr => ∃ k m : Nat, k ≤ n ∧ i = .int .i64 k ∧ Hid (eqUp xs ys k) ∧ wr = w.drewN m) (fun i _ => n - (intOf i).toNat)
    case atStart => exact ⟨0, 0, Nat.zero_le _, rfl, Lib.hid (fun i hi => absurd hi (Nat.not_lt_zero _)), rfl⟩
    case round =>
      obtain ⟨k, m, hk, rfl, HU, rfl⟩ := hrel
      by_cases hlt : k < n
      · obtain ⟨x, hA, hxb, c1, c2⟩ := HR.out.at_ k (by rw [HN.out]; exact hlt)
        obtain ⟨y, hA', hyb, d1, d2⟩ := HR'.out.at_ k (by rw [HN'.out]; exact hlt)
        subst hA hA'
        have HNe := Lib.hid (fun h : ¬ (cd xs k = cd ys k ∧ am xs k = am ys k) => up_of_ne h)
        have HYe := Lib.hid (fun h : (cd xs k = cd ys k ∧ am xs k = am ys k) => show eqUp xs ys (k + 1) from fun i hi => by
          by_cases e : i = k
          · subst e; exact h
          · exact HU.out i (by omega))
        generalize cd xs k = s at *
        generalize am xs k = a at *
        generalize cd ys k = t at *
        generalize am ys k = b at *
        have hi : ((k : Nat) : Int) < (n : Int) := by omega
        by_cases he : s = t ∧ a = b
        · have HY := Lib.hid (HYe.out he)
          obtain ⟨rfl, rfl⟩ := he
          go_wp2
          go_quiet (fail)
          go_wp2
          go_roundw
          case rel => exact ⟨k + 1, _, by omega, by go_num, HY, rfl⟩
          case measure => simp [intOf]; omega
        · have HF := Lib.hid (decide_eq_false (HNe.out he))
          by_cases hs : s = t
          · subst hs
            have hab : (a == b) = false := by
              cases h : (a == b)
              · rfl
              · simp at h; exact absurd ⟨rfl, h⟩ he
            go_wp2
            go_quiet (fail)
            go_wp2
            go_ret
            exact ⟨by rw [HF.out] <;> rfl, _, drewN2 _ _ _⟩
          · have hst : (s.toList == t.toList) = false := by rw [str_eq]; exact decide_eq_false hs
            go_wp2
            go_quiet (fail)
            go_wp2
            go_ret
            exact ⟨by rw [HF.out] <;> rfl, _, drewN2 _ _ _⟩
      · have e : k = n := by omega
        subst e
        have HF := Lib.hid (decide_eq_true (eq_of_up HN.out HN'.out HU.out))
        go_wp2
        go_ret
        exact ⟨by rw [HF.out] <;> rfl, _, rfl⟩
  · have HF := Lib.hid (decide_eq_false (show xs ≠ ys from fun e => hnn (by rw [← HN.out, ← HN'.out, e])))
    have hb : ((n : Int) != (n' : Int)) = true := by simp; omega
    go_enter Tryd.func20, Tryd.ntmps20
    go_wp2
    go_ret
    exact ⟨by rw [HF.out] <;> rfl, 0, rfl⟩

theorem en_eq (x y : En) : decide (x = y) = (decide (x.key = y.key) && decide (x.day = y.day) && decide (x.ls = y.ls)) := by
  by_cases h1 : x.key = y.key <;> by_cases h2 : x.day = y.day <;> by_cases h3 : x.ls = y.ls
  · rw [decide_eq_true (En.eq h1 h2 h3)]; simp [h1, h2, h3]
  all_goals (rw [decide_eq_false (fun e => by subst e; first | exact h1 rfl | exact h2 rfl | exact h3 rfl)]; simp [h1, h2, h3])

set_option maxHeartbeats 1600000 in
theorem rsame_any (x y : En) (A A' : Option Addr) (n c n' c' : Nat) (w : World) (hx : Lq w A n c x.ls) (hy : Lq w A' n' c' y.ls) :
    Calls Tryd.prog 10 #[.agg #[.string x.key, .int .i64 x.day, .slice A n c], .agg #[.string y.key, .int .i64 y.day, .slice A' n' c']] w fun e w' => e = .returned (.bool (decide (x = y))) ∧ Mor w w' := by
  have HE := Lib.hid (fun w' (h : Mor w w') => equal_dec A A' n c n' c' x.ls y.ls w' (hx.si.mor h) (hy.si.mor h) hx.length hy.length (Nat.le_trans hx.le hx.max))
  have HD := Lib.hid (en_eq x y)
  clear hx hy
  generalize decide (x = y) = r at *
  generalize decide (x.ls = y.ls) = b at *
  generalize x.key = s at *
  generalize y.key = t at *
  generalize x.day = d at *
  generalize y.day = d' at *
  by_cases h1 : s = t
  · subst h1
    by_cases h2 : d = d'
    · subst h2
      go_enter Tryd.func10, Tryd.ntmps10
      go_wp2_with ((go_at_call 20; (with_reducible refine (HE.out _ ((Mor.refl _).alloc.alloc)).mono ?_); rintro e w1 ⟨rfl, m, rfl⟩))
      go_ret
      exact ⟨by rw [HD.out] <;> simp, (Mor.refl _).alloc.alloc.drewN⟩
    · have hd : (d == d') = false := by simpa using h2
      go_enter Tryd.func10, Tryd.ntmps10
      go_wp2_with fail
      go_ret
      exact ⟨by rw [HD.out] <;> simp [h2], (Mor.refl _).alloc.alloc⟩
  · have hst : (s.toList == t.toList) = false := by rw [str_eq]; exact decide_eq_false h1
    go_enter Tryd.func10, Tryd.ntmps10
    go_wp2_with fail
    go_ret
    exact ⟨by rw [HD.out] <;> simp [h1], (Mor.refl _).alloc.alloc⟩

end Go.Proofs.YtjcckbkhbpoegaaDoor
