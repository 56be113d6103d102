/- What the walk of book.Post wants: entry.Same, stores into a book's variable, rows that stay. -/
import Derived.Test.YtfmlkhppcepeiaaDoorPJobAllZ1
import Derived.Test.YtfmlkhppcepeiaaDoorPJobAllZ2
import Derived.Test.YtfmlkhppcepeiaaDoorPJobAllZ3
import Derived.Test.YtfmlkhppcepeiaaDoorPJobAllZ4
import Derived.Test.YtfmlkhppcepeiaaDoorPJobAllZ5
import Derived.Test.YtfmlkhppcepeiaaDoorPJobAllZ6
import Derived.Test.YtfmlkhppcepeiaaDoorPJobAllZ7
import Derived.Test.YtfmlkhppcepeiaaDoorPJobAllZ8
import Derived.Test.YtfmlkhppcepeiaaDoorPJobAllZ9
import Derived.Test.YtfmlkhppcepeiaaDoorPJobAllZ10
import Derived.Test.YtfmlkhppcepeiaaDoorPJobAllZ11
import Derived.Test.YtfmlkhppcepeiaaDoorPJobAllZ20
import Derived.Test.YtfmlkhppcepeiaaDoorPJobAllZ21
import Derived.Test.YtfmlkhppcepeiaaDoorPJobAllZ22
import Derived.Test.YtfmlkhppcepeiaaDoorRows
import Derived.BigQuiet
import Derived.DataElems
import Derived.Deep.DeepCutAuto
import Derived.Deep.LoopGhost
import Derived.Deep.QuietTactic
import Derived.Deep.RegionHeld3
import Derived.Deep.RegionLaw
import Derived.Deep.RegionWith
import Derived.Deep.SlicePairs
import Derived.Deep.Slices
import Derived.Deep.Strs
import Derived.Handy
import Derived.Laws.CopyOwn
import Derived.Laws.CopyRow
import Derived.Laws.Cover1
import Derived.Laws.Externs
import Derived.Laws.NewBlocks
import Derived.Lib.AppendZerosOnto
import Derived.Lib.Bytealg
import Derived.Lib.Hide
import Derived.Lib.Overlaps
import Derived.Lib.SliceRun
import Derived.Lib.Walk
import Derived.Maps.Own
import Derived.Maps.OwnSet
import Derived.Maps.Views
import Derived.OpenShut
import Derived.Outline
import Derived.OwnWalk
import Derived.PlainAid
import Derived.ProofKit
import Derived.RegionTactic
import Derived.Shelf.Abstract
import Derived.Shelf.RegionOpenPlain
import Derived.Sort.Walk0
import Derived.StringKeys
import Derived.WalkKit
import Derived.WalkSpells
namespace Go.Proofs.YtfmlkhppcepeiaaDoor
open Go.ChangeShapes Go.WideShapes Go.ChangeAt Go.RowKit Go.PlainAid
set_option linter.unusedVariables false

theorem drewN2 (w : World) (m n : Nat) : (w.drewN m).drewN n = w.drewN (m + n) := by simp [World.drewN, Nat.add_assoc]
/-- how far two lists are the same -/
def eqUp (xs ys : List Ln) (k : Nat) : Prop := ∀ i, i < k → cd xs i = cd ys i ∧ am xs i = am ys i
theorem eq_of_up {xs ys : List Ln} {n : Nat} (h1 : xs.length = n) (h2 : ys.length = n) (h : eqUp xs ys n) : xs = ys := by
  apply List.ext_getElem (by omega)
  intro i hi hj
  obtain ⟨a, b⟩ := h i (by omega)
  rw [(cd_at xs i hi).1, (cd_at ys i hj).1] at a
  rw [(cd_at xs i hi).2, (cd_at ys i hj).2] at b
  exact Prod.ext a b
theorem up_of_ne {xs ys : List Ln} {k : Nat} (h : ¬ (cd xs k = cd ys k ∧ am xs k = am ys k)) : xs ≠ ys := fun e => h (by subst e; exact ⟨rfl, rfl⟩)

set_option maxRecDepth 100000 in
set_option maxHeartbeats 1600000 in
theorem equal_dec (A A' : Option Addr) (n c n' c' : Nat) (xs ys : List Ln) (w : World) (hr : Si w A xs) (hr' : Si w A' ys) (hn : xs.length = n) (hn' : ys.length = n') (hl : n ≤ maxLen) :
    Calls Tryd.prog 26 #[.slice A n c, .slice A' n' c'] w fun e w' => e = .returned (.bool (decide (xs = ys))) ∧ ∃ k, w' = w.drewN k := by
  unfold maxLen at hl
  have HR := Lib.hid hr
  have HR' := Lib.hid hr'
  have HN := Lib.hid hn
  have HN' := Lib.hid hn'
  clear hr hr' hn hn'
  by_cases hnn : n = n'
  · subst hnn
    go_enter Tryd.func26, Tryd.ntmps26
    go_wp2
    go_loopw [13] (fun i wr => ∃ k m : Nat, k ≤ n ∧ i = .int .i64 k ∧ Hid (eqUp xs ys k) ∧ wr = w.drewN m) (fun i _ => n - (intOf i).toNat)
    case atStart => exact ⟨0, 0, Nat.zero_le _, rfl, Lib.hid (fun i hi => absurd hi (Nat.not_lt_zero _)), rfl⟩
    case round =>
      obtain ⟨k, m, hk, rfl, HU, rfl⟩ := hrel
      by_cases hlt : k < n
      · obtain ⟨x, hA, hxb, c1, c2⟩ := HR.out.at_ k (by rw [HN.out]; exact hlt)
        obtain ⟨y, hA', hyb, d1, d2⟩ := HR'.out.at_ k (by rw [HN'.out]; exact hlt)
        subst hA hA'
        have HNe := Lib.hid (fun h : ¬ (cd xs k = cd ys k ∧ am xs k = am ys k) => up_of_ne h)
        have HYe := Lib.hid (fun h : (cd xs k = cd ys k ∧ am xs k = am ys k) => show eqUp xs ys (k + 1) from fun i hi => by
          by_cases e : i = k
          · subst e; exact h
          · exact HU.out i (by omega))
        generalize cd xs k = s at *
        generalize am xs k = a at *
        generalize cd ys k = t at *
        generalize am ys k = b at *
        have hi : ((k : Nat) : Int) < (n : Int) := by omega
        by_cases he : s = t ∧ a = b
        · have HY := Lib.hid (HYe.out he)
          obtain ⟨rfl, rfl⟩ := he
          go_wp2
          go_quiet (fail)
          go_wp2
          go_roundw
          case rel => exact ⟨k + 1, _, by omega, by go_num, HY, rfl⟩
          case measure => simp [intOf]; omega
        · have HF := Lib.hid (decide_eq_false (HNe.out he))
          by_cases hs : s = t
          · subst hs
            have hab : (a == b) = false := by
              cases h : (a == b)
              · rfl
              · simp at h; exact absurd ⟨rfl, h⟩ he
            go_wp2
            go_quiet (fail)
            go_wp2
            go_ret
            exact ⟨by rw [HF.out] <;> rfl, _, drewN2 _ _ _⟩
          · have hst : (s.toList == t.toList) = false := by rw [str_eq]; exact decide_eq_false hs
            go_wp2
            go_quiet (fail)
            go_wp2
            go_ret
            exact ⟨by rw [HF.out] <;> rfl, _, drewN2 _ _ _⟩
      · have e : k = n := by omega
        subst e
        have HF := Lib.hid (decide_eq_true (eq_of_up HN.out HN'.out HU.out))
        go_wp2
        go_ret
        exact ⟨by rw [HF.out] <;> rfl, _, rfl⟩
  · have HF := Lib.hid (decide_eq_false (show xs ≠ ys from fun e => hnn (by rw [← HN.out, ← HN'.out, e])))
    have hb : ((n : Int) != (n' : Int)) = true := by simp; omega
    go_enter Tryd.func26, Tryd.ntmps26
    go_wp2
    go_ret
    exact ⟨by rw [HF.out] <;> rfl, 0, rfl⟩

theorem en_eq (x y : En) : decide (x = y) = (decide (x.key = y.key) && decide (x.day = y.day) && decide (x.ls = y.ls)) := by
  by_cases h1 : x.key = y.key <;> by_cases h2 : x.day = y.day <;> by_cases h3 : x.ls = y.ls
  · rw [decide_eq_true (En.eq h1 h2 h3)]; simp [h1, h2, h3]
  all_goals (rw [decide_eq_false (fun e => by subst e; first | exact h1 rfl | exact h2 rfl | exact h3 rfl)]; simp [h1, h2, h3])

theorem OwnE.setT {w : World} {base g i : Nat} {u : Value} {q : Ev} {x : En} {T : TypeId} {cs : Array Value} (h : OwnE w base q x) (hb : Bk w g T cs) (hT : 40 ≠ T) : OwnE (w.setCell ⟨g, i, none⟩ u) base q x := ⟨h.key, h.day, own_setT h.row hb hT, h.len, h.ks, h.str⟩
theorem OwnEs.setT {w : World} {base g i m : Nat} {u v : Value} {qs : List Ev} {es : List En} {cs : Array Value} (h : OwnEs w base v m qs es) (hb : Bk w g 45 cs) : OwnEs (w.setCell ⟨g, i, none⟩ u) base v m qs es := ⟨own_setT h.row hb (by decide), h.ql, h.el, fun i hi => (h.ent i hi).setT hb (by decide)⟩
theorem OwnB.setT {w : World} {base g i n m : Nat} {u vA vX : Value} {b : Bok} {cs : Array Value} (h : OwnB w base vA vX n m b) (hb : Bk w g 45 cs) : OwnB (w.setCell ⟨g, i, none⟩ u) base vA vX n m b := by
  obtain ⟨qs, hq⟩ := h.es
  exact ⟨own_setT h.ac hb (by decide), h.al, h.astr, qs, hq.setT hb⟩
theorem OwnE.base {w : World} {base base' : Nat} {q : Ev} {x : En} (h : OwnE w base q x) (hb : base' ≤ base) : OwnE w base' q x := ⟨h.key, h.day, own_base h.row hb, h.len, h.ks, h.str⟩
theorem OwnEs.base {w : World} {base base' m : Nat} {v : Value} {qs : List Ev} {es : List En} (h : OwnEs w base v m qs es) (hb : base' ≤ base) : OwnEs w base' v m qs es := ⟨own_base h.row hb, h.ql, h.el, fun i hi => (h.ent i hi).base hb⟩
theorem OwnB.base {w : World} {base base' n m : Nat} {vA vX : Value} {b : Bok} (h : OwnB w base vA vX n m b) (hb : base' ≤ base) : OwnB w base' vA vX n m b := by
  obtain ⟨qs, hq⟩ := h.es
  exact ⟨own_base h.ac hb, h.al, h.astr, qs, hq.base hb⟩
theorem Bk.growT {w w' : World} {B g s n : Nat} {t T : TypeId} {cs : Array Value} {v : Value} {xs : List Value} (h : Bk w g t cs) (hv : w.ownsRow B T s v n xs) (hg : w.grownBy w' v.ownBlock) (hT : t ≠ T) : Bk w' g t cs := by
  refine (hg.block g h.lt (fun e => ?_)).trans h
  obtain ⟨_, _, cur, hc⟩ := own_blk hv e.symm
  unfold Bk at h
  rw [h] at hc
  injection hc with hc
  injection hc with _ hc _
  exact hT hc
end Go.Proofs.YtfmlkhppcepeiaaDoor
