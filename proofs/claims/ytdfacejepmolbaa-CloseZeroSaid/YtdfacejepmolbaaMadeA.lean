/- A book that entries are posted to, one after another; the walk of talkeep.made. -/
import Derived.Test.YtdfacejepmolbaaTriG
import Derived.Test.YtdfacejepmolbaaBookS
namespace Go.Proofs.Ytdfacejepmolbaa
open Go.ChangeShapes Go.WideShapes Go.ChangeAt Go.RowKit Go.PlainAid
set_option linter.unusedVariables false

/-- the book behind an entry, be it refused or not -/
def stepb (b : Bok) (x : En) : Bok := if postc b x = 0 then postb b x else b
/-- the book behind entries -/
def madeb (b : Bok) (es : List En) : Bok := es.foldl stepb b
theorem stepb_yes {b : Bok} {x : En} (h : postc b x = 0) : stepb b x = postb b x := by unfold stepb; rw [if_pos h]
theorem stepb_no {b : Bok} {x : En} (h : postc b x ≠ 0) : stepb b x = b := by unfold stepb; rw [if_neg h]
theorem madeb_take (b : Bok) (es : List En) (j : Nat) (hj : j < es.length) : madeb b (es.take (j + 1)) = stepb (madeb b (es.take j)) (ne es j) := by
  unfold madeb
  rw [List.take_succ_eq_append_getElem hj, List.foldl_append, ne_eq _ _ hj]
  rfl
theorem stepb_ac (b : Bok) (x : En) : (stepb b x).ac = b.ac ∧ (stepb b x).shut = b.shut := by
  unfold stepb
  split
  · exact post_ac b x
  · exact ⟨rfl, rfl⟩
theorem madeb_ac (b : Bok) (es : List En) : (madeb b es).ac = b.ac ∧ (madeb b es).shut = b.shut := by
  induction es generalizing b with
  | nil => exact ⟨rfl, rfl⟩
  | cons x xs ih => exact ⟨(ih (stepb b x)).1.trans (stepb_ac b x).1, (ih (stepb b x)).2.trans (stepb_ac b x).2⟩
/-- the book is the one that came in, or one's own -/
def Hld (w : World) (A0 : Option Addr) (n c0 : Nat) (X0 : Option Addr) (m0 k0 : Nat) (b0 : Bok) (A : Option Addr) (c : Nat) (X : Option Addr) (m k : Nat) (b : Bok) : Prop :=
  (A = A0 ∧ c = c0 ∧ X = X0 ∧ m = m0 ∧ k = k0 ∧ b = b0) ∨ ∃ B, OwnB w B (.slice A n c) (.slice X m k) n m b
section
variable {w w' : World} {A0 : Option Addr} {n c0 : Nat} {X0 : Option Addr} {m0 k0 : Nat} {b0 : Bok} {A : Option Addr} {c : Nat} {X : Option Addr} {m k : Nat} {b : Bok}
theorem Hld.start : Hld w A0 n c0 X0 m0 k0 b0 A0 c0 X0 m0 k0 b0 := .inl ⟨rfl, rfl, rfl, rfl, rfl, rfl⟩
theorem Hld.mor (h : Hld w A0 n c0 X0 m0 k0 b0 A c X m k b) (hm : Mor w w') : Hld w' A0 n c0 X0 m0 k0 b0 A c X m k b := by
  rcases h with h | ⟨B, h⟩
  · exact .inl h
  · exact .inr ⟨B, h.mor hm⟩
theorem own_bq {B : Nat} (h : OwnB w B (.slice A n c) (.slice X m k) n m b) : Bq w A n c X m k b := by
  obtain ⟨A', c', X', k', e1, e2, hb⟩ := h.bq
  injection e1 with e1 _ e3
  injection e2 with e4 _ e6
  subst e1 e3 e4 e6
  exact hb
theorem Hld.bq (h : Hld w' A0 n c0 X0 m0 k0 b0 A c X m k b) (hb : Bq w A0 n c0 X0 m0 k0 b0) (hm : Mor w w') : Bq w' A n c X m k b := by
  rcases h with ⟨rfl, rfl, rfl, rfl, rfl, rfl⟩ | ⟨B, h⟩
  · exact hb.mor hm
  · exact own_bq h
theorem Hld.store {g : Nat} {z z' z'' a a' a'' : Value} (h : Hld w A0 n c0 X0 m0 k0 b0 A c X m k b) (hg : Bk w g 25 #[z, z', z'']) :
    Hld (((w.setCell ⟨g, 0, none⟩ a).setCell ⟨g, 1, none⟩ a').setCell ⟨g, 2, none⟩ a'') A0 n c0 X0 m0 k0 b0 A c X m k b := by
  rcases h with h | ⟨B, h⟩
  · exact .inl h
  · exact .inr ⟨B, own3 h hg⟩
theorem Hld.own {B : Nat} (h : OwnB w B (.slice A n c) (.slice X m k) n m b) : Hld w A0 n c0 X0 m0 k0 b0 A c X m k b := .inr ⟨B, h⟩
end
theorem postYes_own {w w' : World} {b : Bok} {e : Ending} {n : Nat} (h : PostYes w b e w') (hn : b.ac.length = n) : ∃ A c X m k, e = .returned (.tuple #[bv A n c X m k b.shut, .int .i64 0]) ∧ OwnB w' w.heap.size (.slice A n c) (.slice X m k) n m b ∧ Mor w w' := by
  obtain ⟨A, n', c, X, m, k, he, hq, ho, hm⟩ := postYes_bq h
  have e : n' = n := by rw [← hq.ac.length, hn]
  subst e
  exact ⟨A, c, X, m, k, he, ho, hm⟩

end Go.Proofs.Ytdfacejepmolbaa
