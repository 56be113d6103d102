/- Where a book that Post hands back lies when its variable was made ahead of it, or behind it. -/
import Derived.Test.YtpgefclnplmlkaaTriF
namespace Go.Proofs.Ytpgefclnplmlkaa
open Go.ChangeShapes Go.WideShapes Go.ChangeAt Go.RowKit Go.PlainAid
set_option linter.unusedVariables false

theorem newAt {w : World} {T : TypeId} {cs : Array Value} {g : Nat} (h : w.heap.size = g) : Bk (w.alloc (.cells cs T)) g T cs := by
  subst h; exact Bk.new w T cs
theorem lq_at {W : World} {g : Nat} {T : TypeId} {u v : Int} (h : Bk W g T #[.string s10, .int .i64 u, .string s15, .int .i64 v]) : Lq W (some ⟨g, 0, none⟩) 2 2 [(s10, u), (s15, v)] := by
  refine lq_two (.inr ⟨⟨g, 0, none⟩, rfl, h.lt, fun i hi => ?_⟩) two_max two_max
  match i, hi with
  | 0, _ => exact ⟨h.cell 0, h.cell 1⟩
  | 1, _ => exact ⟨h.cell 2, h.cell 3⟩
theorem own3 {W : World} {base g n m : Nat} {vA vX a a' a'' z z' z'' : Value} {b : Bok} (h : OwnB W base vA vX n m b) (hb : Bk W g 25 #[z, z', z'']) :
    OwnB (((W.setCell ⟨g, 0, none⟩ a).setCell ⟨g, 1, none⟩ a').setCell ⟨g, 2, none⟩ a'') base vA vX n m b :=
  ((h.setT hb).setT (hb.set_ 0 a)).setT ((hb.set_ 0 a).set_ 1 a')
/-- a variable holds the book that Post handed back -/
def PutY (w wx : World) (sh : Int) (y : Bok) (e p : Value) : Prop := ∃ g A n c X m k, e = .int .i64 0 ∧ p = .pointer (some ⟨g, 0, none⟩) ∧ Bk wx g 25 #[.slice A n c, .slice X m k, .int .i64 sh] ∧ (∃ B, OwnB wx B (.slice A n c) (.slice X m k) n m y) ∧ Mor w wx
theorem putY_last {w : World} {o : Obj} {bs : List Obj} {dr B n c m k : Nat} {A X : Option Addr} {sh : Int} {y : Bok} (h : OwnB (more (w.alloc o).drew bs dr) B (.slice A n c) (.slice X m k) n m y) :
    PutY w ((more (w.alloc o) bs dr).alloc (.cells #[.slice A n c, .slice X m k, .int .i64 sh] 25)) sh y (.int .i64 0) (.pointer (some ⟨w.heap.size + 1 + bs.length, 0, none⟩)) := by
  refine ⟨_, A, n, c, X, m, k, rfl, rfl, newAt (by simp), ⟨B, ?_⟩, (Mor.refl w).alloc.more.alloc⟩
  exact OwnB.mor (show OwnB (more (w.alloc o) bs dr) B (.slice A n c) (.slice X m k) n m y from h) (Mor.refl _).alloc
theorem putY_mid {w : World} {o : Obj} {bs : List Obj} {dr B n c m k : Nat} {A X : Option Addr} {z z' z'' : Value} {sh : Int} {y : Bok} (h : OwnB (more ((w.alloc o).alloc (.cells #[z, z', z''] 25)).drew bs dr) B (.slice A n c) (.slice X m k) n m y) :
    PutY w (more ((w.alloc o).alloc (.cells #[.slice A n c, .slice X m k, .int .i64 sh] 25)) bs dr) sh y (.int .i64 0) (.pointer (some ⟨w.heap.size + 1, 0, none⟩)) := by
  refine ⟨_, A, n, c, X, m, k, rfl, rfl, (newAt (by simp)).more _ _, ⟨B, ?_⟩, (Mor.refl w).alloc.alloc.more⟩
  have hb : Bk (more ((w.alloc o).alloc (.cells #[z, z', z''] 25)) bs dr) (w.heap.size + 1) 25 #[z, z', z''] := (newAt (by simp)).more _ _
  have h2 := own3 (a := .slice A n c) (a' := .slice X m k) (a'' := .int .i64 sh) (show OwnB (more ((w.alloc o).alloc (.cells #[z, z', z''] 25)) bs dr) B (.slice A n c) (.slice X m k) n m y from h) hb
  rw [show (((more ((w.alloc o).alloc (.cells #[z, z', z''] 25)) bs dr).setCell ⟨w.heap.size + 1, 0, none⟩ (.slice A n c)).setCell ⟨w.heap.size + 1, 1, none⟩ (.slice X m k)).setCell ⟨w.heap.size + 1, 2, none⟩ (.int .i64 sh) = more ((w.alloc o).alloc (.cells #[.slice A n c, .slice X m k, .int .i64 sh] 25)) bs dr by simp [go_sem]] at h2
  exact h2
theorem putY_first {w : World} {o : Obj} {bs : List Obj} {dr B n c m k : Nat} {A X : Option Addr} {z z' z'' : Value} {sh : Int} {y : Bok} (h : OwnB (more ((w.alloc (.cells #[z, z', z''] 25)).alloc o).drew bs dr) B (.slice A n c) (.slice X m k) n m y) :
    PutY w (more ((w.alloc (.cells #[.slice A n c, .slice X m k, .int .i64 sh] 25)).alloc o) bs dr) sh y (.int .i64 0) (.pointer (some ⟨w.heap.size, 0, none⟩)) := by
  refine ⟨_, A, n, c, X, m, k, rfl, rfl, ((newAt rfl).alloc _).more _ _, ⟨B, ?_⟩, (Mor.refl w).alloc.alloc.more⟩
  have hb : Bk (more ((w.alloc (.cells #[z, z', z''] 25)).alloc o) bs dr) w.heap.size 25 #[z, z', z''] := ((newAt rfl).alloc _).more _ _
  have h2 := own3 (a := .slice A n c) (a' := .slice X m k) (a'' := .int .i64 sh) (show OwnB (more ((w.alloc (.cells #[z, z', z''] 25)).alloc o) bs dr) B (.slice A n c) (.slice X m k) n m y from h) hb
  rw [show (((more ((w.alloc (.cells #[z, z', z''] 25)).alloc o) bs dr).setCell ⟨w.heap.size, 0, none⟩ (.slice A n c)).setCell ⟨w.heap.size, 1, none⟩ (.slice X m k)).setCell ⟨w.heap.size, 2, none⟩ (.int .i64 sh) = more ((w.alloc (.cells #[.slice A n c, .slice X m k, .int .i64 sh] 25)).alloc o) bs dr by simp [go_sem]] at h2
  exact h2

end Go.Proofs.Ytpgefclnplmlkaa
