/- What is posted is found again; stepping over an entry's and a book's variable. -/
import Derived.Test.YtpgefclnplmlkaaBookR
namespace Go.Proofs.Ytpgefclnplmlkaa
open Go.ChangeShapes Go.WideShapes Go.ChangeAt Go.RowKit Go.PlainAid
set_option linter.unusedVariables false

theorem find_mem {es : List En} (h : es.Pairwise fun x y => x.key ≠ y.key) {x : En} (hx : x ∈ es) : ∃ i : Nat, i < es.length ∧ findE es x.key = i ∧ ne es i = x := by
  obtain ⟨j, hj, rfl⟩ := List.mem_iff_getElem.1 hx
  rcases findE_cases es es[j].key with ⟨_, hn⟩ | ⟨i, hi, e, hk⟩
  · exact absurd rfl (hn _ (List.getElem_mem hj))
  · refine ⟨i, hi, e, ?_⟩
    rw [ne_eq _ _ hi]
    rcases Nat.lt_trichotomy i j with hlt | hlt | hlt
    · exact absurd hk ((List.pairwise_iff_getElem.1 h) i j hi hj hlt)
    · subst hlt; rfl
    · exact absurd hk.symm ((List.pairwise_iff_getElem.1 h) j i hj hi hlt)
theorem post_again {b : Bok} {x : En} (h : BOk b) (he : enc x = 0) (hx : x ∈ b.en) : postc b x = 0 ∧ postb b x = b := by
  obtain ⟨i, hi, hf, hn⟩ := find_mem h.keys hx
  have h0 : 0 ≤ findE b.en x.key := by rw [hf]; omega
  refine ⟨?_, by unfold postb; rw [if_pos h0]⟩
  unfold postc
  rw [if_neg (by simp [(bookc_iff b).2 h]), if_neg (by simp [he]), if_pos h0, hf, if_pos (by simpa using hn)]
theorem bk_entry (w : World) (s : ByteArray) (d : Int) (A : Option Addr) (n c : Nat) {w' : World} (h : Mor (w.alloc (.cells #[.string s, .int .i64 d, .slice A n c] 42)) w') :
    w'.cell? ⟨w.heap.size, 0, none⟩ = some (.string s) ∧ w'.cell? ⟨w.heap.size, 1, none⟩ = some (.int .i64 d) ∧ w'.cell? ⟨w.heap.size, 2, none⟩ = some (.slice A n c) ∧ w.heap.size < w'.heap.size := by
  have hb := (Bk.new w 42 #[.string s, .int .i64 d, .slice A n c]).mor h
  exact ⟨by rw [hb.cell]; rfl, by rw [hb.cell]; rfl, by rw [hb.cell]; rfl, hb.lt⟩
/-- the four facts of a variable of three cells, carried along -/
def C3 (w : World) (g : Nat) (a b c : Value) : Prop := w.cell? ⟨g, 0, none⟩ = some a ∧ w.cell? ⟨g, 1, none⟩ = some b ∧ w.cell? ⟨g, 2, none⟩ = some c ∧ g < w.heap.size
theorem C3.mor {w w' : World} {g : Nat} {a b c : Value} (h : C3 w g a b c) (hm : Mor w w') : C3 w' g a b c :=
  ⟨(hm.below.cell h.2.2.2).trans h.1, (hm.below.cell h.2.2.2).trans h.2.1, (hm.below.cell h.2.2.2).trans h.2.2.1, Nat.lt_of_lt_of_le h.2.2.2 hm.below.size⟩
theorem C3.new (w : World) (a b c : Value) (T : TypeId) : C3 (w.alloc (.cells #[a, b, c] T)) w.heap.size a b c := by
  have hb := Bk.new w T #[a, b, c]
  exact ⟨by rw [hb.cell]; rfl, by rw [hb.cell]; rfl, by rw [hb.cell]; rfl, hb.lt⟩
theorem getYes_lq {w w' : World} {x : En} {e : Ending} (h : GetYes w x e w') : ∃ A n c, e = .returned (.tuple #[.agg #[.string x.key, .int .i64 x.day, .slice A n c], .int .i64 0]) ∧ Lq w' A n c x.ls ∧ Mor w w' := by
  obtain ⟨A, n, c, he, ho, hm⟩ := h
  exact ⟨A, n, c, he, ho.lq, hm⟩

end Go.Proofs.Ytpgefclnplmlkaa
