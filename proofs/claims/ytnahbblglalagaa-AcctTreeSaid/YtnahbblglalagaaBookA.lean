/- How a book lies in memory, and how one that came in reads. -/
import Derived.Test.YtnahbblglalagaaPlainBk
import Derived.Test.YtnahbblglalagaaEntF
import Derived.Deep.Slices
import Derived.Deep.Strs
namespace Go.Proofs.Ytnahbblglalagaa
open Go.ChangeShapes Go.WideShapes Go.ChangeAt Go.RowKit Go.PlainAid
set_option linter.unusedVariables false

/-- a slice of pairs that reads xs -/
structure Lq (w : World) (A : Option Addr) (n c : Nat) (xs : List Ln) : Prop where
  si : Si w A xs
  length : xs.length = n
  le : n ≤ c
  max : c ≤ maxLen
  nil : A = none → n = 0
  str : ∀ i, i < n → (cd xs i).size ≤ maxLen
theorem Lq.mor {w w' : World} {A : Option Addr} {n c : Nat} {xs : List Ln} (h : Lq w A n c xs) (hm : Mor w w') : Lq w' A n c xs :=
  ⟨h.si.mor hm, h.length, h.le, h.max, h.nil, h.str⟩
theorem IsLn.lq {w : World} {A : Option Addr} {n c : Nat} {xs : List Ln} (h : IsLn w A n c xs) : Lq w A n c xs := ⟨h.si, h.length, h.le, h.max, h.nil, h.str⟩
/-- entries that the slice at X reads -/
def Es (w : World) (X : Option Addr) (es : List En) : Prop :=
  es = [] ∨ ∃ x, X = some x ∧ x.block < w.heap.size ∧ ∀ i, i < es.length → (ne es i).key.size ≤ maxLen ∧ ∃ A n c, w.cell? (x.add (i * 3)) = some (.string (ne es i).key) ∧
    w.cell? ⟨(x.add (i * 3)).block, (x.add (i * 3)).off + 1, none⟩ = some (.int .i64 (ne es i).day) ∧ w.cell? ⟨(x.add (i * 3)).block, (x.add (i * 3)).off + 2, none⟩ = some (.slice A n c) ∧ Lq w A n c (ne es i).ls
theorem Es.mor {w w' : World} {X : Option Addr} {es : List En} (h : Es w X es) (hm : Mor w w') : Es w' X es := by
  rcases h with h | ⟨x, e, hb, hc⟩
  · exact .inl h
  · have hB := hm.below
    refine .inr ⟨x, e, by have := hB.size; omega, fun i hi => ?_⟩
    obtain ⟨hk, A, n, c, c1, c2, c3, hl⟩ := hc i hi
    exact ⟨hk, A, n, c, (hB.cell (p := x.add (i * 3)) (by rw [addb]; exact hb)).trans c1, (hB.cell (p := ⟨(x.add (i * 3)).block, (x.add (i * 3)).off + 1, none⟩) (by rw [addb]; exact hb)).trans c2,
      (hB.cell (p := ⟨(x.add (i * 3)).block, (x.add (i * 3)).off + 2, none⟩) (by rw [addb]; exact hb)).trans c3, hl.mor hm⟩
theorem Es.at_ {w : World} {X : Option Addr} {es : List En} (h : Es w X es) (i : Nat) (hi : i < es.length) :
    ∃ x A n c, X = some x ∧ x.block < w.heap.size ∧ (ne es i).key.size ≤ maxLen ∧ w.cell? (x.add (i * 3)) = some (.string (ne es i).key) ∧
      w.cell? ⟨(x.add (i * 3)).block, (x.add (i * 3)).off + 1, none⟩ = some (.int .i64 (ne es i).day) ∧ w.cell? ⟨(x.add (i * 3)).block, (x.add (i * 3)).off + 2, none⟩ = some (.slice A n c) ∧ Lq w A n c (ne es i).ls := by
  rcases h with h | ⟨x, e, hb, hc⟩
  · subst h; simp at hi
  · obtain ⟨hk, A, n, c, c1, c2, c3, hl⟩ := hc i hi
    exact ⟨x, A, n, c, e, hb, hk, c1, c2, c3, hl⟩
/-- a book -/
structure Bq (w : World) (A : Option Addr) (n c : Nat) (X : Option Addr) (m k : Nat) (b : Bok) : Prop where
  ac : Lq w A n c b.ac
  es : Es w X b.en
  length : b.en.length = m
  le : m ≤ k
  max : k ≤ maxLen
  nil : X = none → m = 0
theorem Bq.mor {w w' : World} {A : Option Addr} {n c : Nat} {X : Option Addr} {m k : Nat} {b : Bok} (h : Bq w A n c X m k b) (hm : Mor w w') : Bq w' A n c X m k b :=
  ⟨h.ac.mor hm, h.es.mor hm, h.length, h.le, h.max, h.nil⟩
/-- a book's value -/
abbrev bv (A : Option Addr) (n c : Nat) (X : Option Addr) (m k : Nat) (s : Int) : Value := .agg #[.slice A n c, .slice X m k, .int .i64 s]

set_option maxRecDepth 20000
/- how they read that came in -/
theorem cells_acct : Try.prog.cellsOf 70 = 2 := by kernel_rfl
theorem open_ac {H : Type} {enc : TypeId × Value → H} {w : World} {base : Nat} {spare : Nat → Bool} {held : Bool} {fuel : Nat} {c : Value} {x : DataW H × List MemPlace} (h : DataW.trod enc Try.prog w base spare held fuel 44 [c] = some x) :
    ∃ A len cap xs, c = .slice A len cap ∧ IsLn w A len cap xs := by
  rcases Deep.open_slice_pairs Try.underlying44 Try.underlying70 cells_acct rfl rfl (by kernel_rfl) (by kernel_rfl) h with ⟨hc, _⟩ | ⟨a, len, cap, m, n, V0, V1, D0, D1, P0, P1, hc, _, hl, hm, hmm, _, hx⟩
  · simp at hc
    subst hc
    exact ⟨none, 0, 0, [], rfl, ⟨.inl rfl, rfl, Nat.le_refl _, by unfold maxLen; omega, fun i hi => absurd hi (Nat.not_lt_zero _), fun i hi => absurd hi (Nat.not_lt_zero _), fun _ => rfl⟩⟩
  · simp at hc
    subst hc
    have hlm : len ≤ m := by rw [hmm]; split <;> omega
    have hstr : ∀ i, i < len → V0 i = .string (strOf (V0 i)) ∧ (strOf (V0 i)).size ≤ maxLen := fun i hi => by
      obtain ⟨s, h1, _, h3⟩ := DataW.trod_string Try.underlying9 (hx i (by omega)).2.2.1
      simp at h1
      rw [h1]; exact ⟨rfl, h3⟩
    have hint : ∀ i, i < len → V1 i = .int .i64 (numOf (V1 i)) ∧ (Lit.int .i64 (numOf (V1 i))).wf = true := fun i hi => by
      obtain ⟨s, h1, _, h3⟩ := DataW.trod_int Try.underlying3 (hx i (by omega)).2.2.2
      simp at h1
      rw [h1]; exact ⟨rfl, h3⟩
    have hget : ∀ i, i < len → cd ((List.range len).map fun i => (strOf (V0 i), numOf (V1 i))) i = strOf (V0 i) ∧ am ((List.range len).map fun i => (strOf (V0 i), numOf (V1 i))) i = numOf (V1 i) := fun i hi => by
      unfold cd am
      rw [List.getD_eq_getElem?_getD, List.getElem?_map, List.getElem?_range hi]
      exact ⟨rfl, rfl⟩
    refine ⟨some a, len, cap, (List.range len).map fun i => (strOf (V0 i), numOf (V1 i)), rfl, ⟨?_, by simp, hl, hm, fun i hi => by rw [(hget i hi).1]; exact (hstr i hi).2, fun i hi => by rw [(hget i hi).2]; exact (hint i hi).2, fun h => by cases h⟩⟩
    by_cases h0 : len = 0
    · subst h0; exact .inl rfl
    · refine .inr ⟨a, rfl, ?_, fun i hi => ?_⟩
      · have := World.block_lt_of_cell? _ _ (hx 0 (by omega)).1
        rw [addb] at this; exact this
      · have hi' : i < len := by simpa using hi
        obtain ⟨e1, e2⟩ := hget i hi'
        rw [e1, e2]
        refine ⟨by rw [(hx i (by omega)).1, ← (hstr i hi').1], ?_⟩
        have := (hx i (by omega)).2.1
        rw [← Addr.add_add, Addr.add_succ' (a.add (i * 2)) 0] at this
        rw [← (hint i hi').1]
        exact this

theorem cells_entry : Try.prog.cellsOf 95 = 3 := by kernel_rfl
theorem cells_str : Try.prog.cellsOf 9 = 1 := by kernel_rfl
theorem cells_int : Try.prog.cellsOf 3 = 1 := by kernel_rfl
theorem cells_lines : Try.prog.cellsOf 93 = 1 := by kernel_rfl
instance : Inhabited En := ⟨en0⟩
theorem open_en {H : Type} {enc : TypeId × Value → H} {w : World} {base : Nat} {spare : Nat → Bool} {held : Bool} {fuel : Nat} {c : Value} {x : DataW H × List MemPlace} (h : DataW.trod enc Try.prog w base spare held fuel 48 [c] = some x) :
    ∃ X m k es, c = .slice X m k ∧ Es w X es ∧ es.length = m ∧ m ≤ k ∧ k ≤ maxLen ∧ (X = none → m = 0) := by
  rcases Deep.open_slice Try.underlying48 h with ⟨hc, _⟩ | ⟨a, len, cap, m, n, D, Pl, hc, hb, hl, hm, hmm, _, hx⟩
  · simp at hc
    subst hc
    exact ⟨none, 0, 0, [], rfl, .inl rfl, rfl, Nat.le_refl _, by unfold maxLen; omega, fun _ => rfl⟩
  · simp at hc
    subst hc
    have hlm : len ≤ m := by rw [hmm]; split <;> omega
    have each : ∀ i, i < len → ∃ q : En, q.key.size ≤ maxLen ∧ ∃ A n c, w.cell? (a.add (i * 3)) = some (.string q.key) ∧
        w.cell? ⟨(a.add (i * 3)).block, (a.add (i * 3)).off + 1, none⟩ = some (.int .i64 q.day) ∧ w.cell? ⟨(a.add (i * 3)).block, (a.add (i * 3)).off + 2, none⟩ = some (.slice A n c) ∧ Lq w A n c q.ls := by
      intro i hi
      obtain ⟨cs', h1, h2⟩ := hx i (by omega)
      rw [cells_entry] at h1
      obtain ⟨_, hlen, hcell⟩ := World.cells?_some h1
      obtain ⟨xs, j, hj, hxy, _, hxl, hf⟩ := DataW.trod_struct Try.underlying95 h2
      match xs, hxl, cs', hlen with
      | [y0, y1, y2], _, [v0, v1, v2], _ =>
        have g0 := hf 0 _ rfl
        have g1 := hf 1 _ rfl
        have g2 := hf 2 _ rfl
        simp [cells_str, cells_int, cells_lines] at g0 g1 g2
        obtain ⟨s, e0, _, hs⟩ := DataW.trod_string Try.underlying9 g0
        obtain ⟨d, e1, _, _⟩ := DataW.trod_int Try.underlying3 g1
        obtain ⟨A, p, q, ls, e2, hls⟩ := open_ln g2
        simp at e0 e1
        subst e0 e1 e2
        have c0 := hcell 0 (by omega)
        have c1 := hcell 1 (by omega)
        have c2 := hcell 2 (by omega)
        rw [Addr.add_succ' (a.add (i * 3)) 0] at c1
        rw [Addr.add_succ' (a.add (i * 3)) 1] at c2
        refine ⟨⟨s, d, ls⟩, hs, A, p, q, ?_, by simpa using c1, by simpa using c2, hls.lq⟩
        have e : (a.add (i * 3)).add 0 = a.add (i * 3) := by rw [Addr.add_add]; rfl
        rw [e] at c0
        simpa using c0
    obtain ⟨q, hq⟩ := Deep.choose_lt each
    have hget : ∀ i, i < len → ne ((List.range len).map q) i = q i := fun i hi => by
      unfold ne
      rw [List.getD_eq_getElem?_getD, List.getElem?_map, List.getElem?_range hi]; rfl
    refine ⟨some a, len, cap, (List.range len).map q, rfl, ?_, by simp, hl, hm, fun h => by cases h⟩
    by_cases h0 : len = 0
    · subst h0; exact .inl rfl
    · refine .inr ⟨a, rfl, ?_, fun i hi => ?_⟩
      · obtain ⟨_, _, _, _, c1, _⟩ := hq 0 (by omega)
        have := World.block_lt_of_cell? _ _ c1
        rw [addb] at this; exact this
      · rw [hget i (by simpa using hi)]; exact hq i (by simpa using hi)

end Go.Proofs.Ytnahbblglalagaa
