/- How a book lies in memory, and how one that came in reads. -/
import Derived.Test.YtohpibjjlfpaaaaGreatDoorPBookOwnZ1
import Derived.Test.YtohpibjjlfpaaaaGreatDoorPBookOwnZ2
import Derived.Test.YtohpibjjlfpaaaaGreatDoorPBookOwnZ3
import Derived.Test.YtohpibjjlfpaaaaGreatDoorPBookOwnZ4
import Derived.Test.YtohpibjjlfpaaaaGreatDoorPBookOwnZ5
import Derived.Test.YtohpibjjlfpaaaaGreatDoorPBookOwnZ6
import Derived.Test.YtohpibjjlfpaaaaGreatDoorPBookOwnZ9
import Derived.Test.YtohpibjjlfpaaaaGreatDoorRows
import Derived.BigQuiet
import Derived.DataElems
import Derived.Deep.LoopGhost
import Derived.Deep.QuietTactic
import Derived.Deep.SlicePairs
import Derived.Deep.Slices
import Derived.Deep.Strs
import Derived.Handy
import Derived.Laws.Cover1
import Derived.Lib.Bytealg
import Derived.Lib.Hide
import Derived.OpenShut
import Derived.Outline
import Derived.PlainAid
import Derived.ProofKit
import Derived.RegionTactic
import Derived.Shelf.Abstract
import Derived.Sort.Walk0
import Derived.WalkKit
namespace Go.Proofs.YtohpibjjlfpaaaaGreatDoor
open Go.ChangeShapes Go.WideShapes Go.ChangeAt Go.RowKit Go.PlainAid
set_option linter.unusedVariables false

/-- a slice of pairs that reads xs -/
structure Lq (w : World) (A : Option Addr) (n c : Nat) (xs : List Ln) : Prop where
  si : Si w A xs
  length : xs.length = n
  le : n ≤ c
  max : c ≤ maxLen
  nil : A = none → n = 0
  str : ∀ i, i < n → (cd xs i).size ≤ maxLen
theorem Lq.mor {w w' : World} {A : Option Addr} {n c : Nat} {xs : List Ln} (h : Lq w A n c xs) (hm : Mor w w') : Lq w' A n c xs :=
  ⟨h.si.mor hm, h.length, h.le, h.max, h.nil, h.str⟩
theorem IsLn.lq {w : World} {A : Option Addr} {n c : Nat} {xs : List Ln} (h : IsLn w A n c xs) : Lq w A n c xs := ⟨h.si, h.length, h.le, h.max, h.nil, h.str⟩
/-- entries that the slice at X reads -/
def Es (w : World) (X : Option Addr) (es : List En) : Prop :=
  es = [] ∨ ∃ x, X = some x ∧ x.block < w.heap.size ∧ ∀ i, i < es.length → (ne es i).key.size ≤ maxLen ∧ ∃ A n c, w.cell? (x.add (i * 3)) = some (.string (ne es i).key) ∧
    w.cell? ⟨(x.add (i * 3)).block, (x.add (i * 3)).off + 1, none⟩ = some (.int .i64 (ne es i).day) ∧ w.cell? ⟨(x.add (i * 3)).block, (x.add (i * 3)).off + 2, none⟩ = some (.slice A n c) ∧ Lq w A n c (ne es i).ls
theorem Es.mor {w w' : World} {X : Option Addr} {es : List En} (h : Es w X es) (hm : Mor w w') : Es w' X es := by
  rcases h with h | ⟨x, e, hb, hc⟩
  · exact .inl h
  · have hB := hm.below
    refine .inr ⟨x, e, by have := hB.size; omega, fun i hi => ?_⟩
    obtain ⟨hk, A, n, c, c1, c2, c3, hl⟩ := hc i hi
    exact ⟨hk, A, n, c, (hB.cell (p := x.add (i * 3)) (by rw [addb]; exact hb)).trans c1, (hB.cell (p := ⟨(x.add (i * 3)).block, (x.add (i * 3)).off + 1, none⟩) (by rw [addb]; exact hb)).trans c2,
      (hB.cell (p := ⟨(x.add (i * 3)).block, (x.add (i * 3)).off + 2, none⟩) (by rw [addb]; exact hb)).trans c3, hl.mor hm⟩
theorem Es.at_ {w : World} {X : Option Addr} {es : List En} (h : Es w X es) (i : Nat) (hi : i < es.length) :
    ∃ x A n c, X = some x ∧ x.block < w.heap.size ∧ (ne es i).key.size ≤ maxLen ∧ w.cell? (x.add (i * 3)) = some (.string (ne es i).key) ∧
      w.cell? ⟨(x.add (i * 3)).block, (x.add (i * 3)).off + 1, none⟩ = some (.int .i64 (ne es i).day) ∧ w.cell? ⟨(x.add (i * 3)).block, (x.add (i * 3)).off + 2, none⟩ = some (.slice A n c) ∧ Lq w A n c (ne es i).ls := by
  rcases h with h | ⟨x, e, hb, hc⟩
  · subst h; simp at hi
  · obtain ⟨hk, A, n, c, c1, c2, c3, hl⟩ := hc i hi
    exact ⟨x, A, n, c, e, hb, hk, c1, c2, c3, hl⟩
/-- a book -/
structure Bq (w : World) (A : Option Addr) (n c : Nat) (X : Option Addr) (m k : Nat) (b : Bok) : Prop where
  ac : Lq w A n c b.ac
  es : Es w X b.en
  length : b.en.length = m
  le : m ≤ k
  max : k ≤ maxLen
  nil : X = none → m = 0
theorem Bq.mor {w w' : World} {A : Option Addr} {n c : Nat} {X : Option Addr} {m k : Nat} {b : Bok} (h : Bq w A n c X m k b) (hm : Mor w w') : Bq w' A n c X m k b :=
  ⟨h.ac.mor hm, h.es.mor hm, h.length, h.le, h.max, h.nil⟩
/-- a book's value -/
abbrev bv (A : Option Addr) (n c : Nat) (X : Option Addr) (m k : Nat) (s : Int) : Value := .agg #[.slice A n c, .slice X m k, .int .i64 s]

set_option maxRecDepth 20000
/- how they read that came in -/
theorem cells_acct : Tryz.prog.cellsOf 58 = 2 := by kernel_rfl
theorem open_ac {H : Type} {enc : TypeId × Value → H} {w : World} {base : Nat} {spare : Nat → Bool} {held : Bool} {fuel : Nat} {c : Value} {x : DataW H × List MemPlace} (h : DataW.trod enc Tryz.prog w base spare held fuel 22 [c] = some x) :
    ∃ A len cap xs, c = .slice A len cap ∧ IsLn w A len cap xs := by
  rcases Deep.open_slice_pairs Tryz.underlying22 Tryz.underlying58 cells_acct rfl rfl (by kernel_rfl) (by kernel_rfl) h with ⟨hc, _⟩ | ⟨a, len, cap, m, n, V0, V1, D0, D1, P0, P1, hc, _, hl, hm, hmm, _, hx⟩
  · simp at hc
    subst hc
    exact ⟨none, 0, 0, [], rfl, ⟨.inl rfl, rfl, Nat.le_refl _, by unfold maxLen; omega, fun i hi => absurd hi (Nat.not_lt_zero _), fun i hi => absurd hi (Nat.not_lt_zero _), fun _ => rfl⟩⟩
  · simp at hc
    subst hc
    have hlm : len ≤ m := by rw [hmm]; split <;> omega
    have hstr : ∀ i, i < len → V0 i = .string (strOf (V0 i)) ∧ (strOf (V0 i)).size ≤ maxLen := fun i hi => by
      obtain ⟨s, h1, _, h3⟩ := DataW.trod_string Tryz.underlying9 (hx i (by omega)).2.2.1
      simp at h1
      rw [h1]; exact ⟨rfl, h3⟩
    have hint : ∀ i, i < len → V1 i = .int .i64 (numOf (V1 i)) ∧ (Lit.int .i64 (numOf (V1 i))).wf = true := fun i hi => by
      obtain ⟨s, h1, _, h3⟩ := DataW.trod_int Tryz.underlying3 (hx i (by omega)).2.2.2
      simp at h1
      rw [h1]; exact ⟨rfl, h3⟩
    have hget : ∀ i, i < len → cd ((List.range len).map fun i => (strOf (V0 i), numOf (V1 i))) i = strOf (V0 i) ∧ am ((List.range len).map fun i => (strOf (V0 i), numOf (V1 i))) i = numOf (V1 i) := fun i hi => by
      unfold cd am
      rw [List.getD_eq_getElem?_getD, List.getElem?_map, List.getElem?_range hi]
      exact ⟨rfl, rfl⟩
    refine ⟨some a, len, cap, (List.range len).map fun i => (strOf (V0 i), numOf (V1 i)), rfl, ⟨?_, by simp, hl, hm, fun i hi => by rw [(hget i hi).1]; exact (hstr i hi).2, fun i hi => by rw [(hget i hi).2]; exact (hint i hi).2, fun h => by cases h⟩⟩
    by_cases h0 : len = 0
    · subst h0; exact .inl rfl
    · refine .inr ⟨a, rfl, ?_, fun i hi => ?_⟩
      · have := World.block_lt_of_cell? _ _ (hx 0 (by omega)).1
        rw [addb] at this; exact this
      · have hi' : i < len := by simpa using hi
        obtain ⟨e1, e2⟩ := hget i hi'
        rw [e1, e2]
        refine ⟨by rw [(hx i (by omega)).1, ← (hstr i hi').1], ?_⟩
        have := (hx i (by omega)).2.1
        rw [← Addr.add_add, Addr.add_succ' (a.add (i * 2)) 0] at this
        rw [← (hint i hi').1]
        exact this

theorem cells_entry : Tryz.prog.cellsOf 28 = 3 := by kernel_rfl
theorem cells_str : Tryz.prog.cellsOf 9 = 1 := by kernel_rfl
theorem cells_int : Tryz.prog.cellsOf 3 = 1 := by kernel_rfl
theorem cells_lines : Tryz.prog.cellsOf 26 = 1 := by kernel_rfl
instance : Inhabited En := ⟨en0⟩
theorem open_en {H : Type} {enc : TypeId × Value → H} {w : World} {base : Nat} {spare : Nat → Bool} {held : Bool} {fuel : Nat} {c : Value} {x : DataW H × List MemPlace} (h : DataW.trod enc Tryz.prog w base spare held fuel 23 [c] = some x) :
    ∃ X m k es, c = .slice X m k ∧ Es w X es ∧ es.length = m ∧ m ≤ k ∧ k ≤ maxLen ∧ (X = none → m = 0) := by
  rcases Deep.open_slice Tryz.underlying23 h with ⟨hc, _⟩ | ⟨a, len, cap, m, n, D, Pl, hc, hb, hl, hm, hmm, _, hx⟩
  · simp at hc
    subst hc
    exact ⟨none, 0, 0, [], rfl, .inl rfl, rfl, Nat.le_refl _, by unfold maxLen; omega, fun _ => rfl⟩
  · simp at hc
    subst hc
    have hlm : len ≤ m := by rw [hmm]; split <;> omega
    have each : ∀ i, i < len → ∃ q : En, q.key.size ≤ maxLen ∧ ∃ A n c, w.cell? (a.add (i * 3)) = some (.string q.key) ∧
        w.cell? ⟨(a.add (i * 3)).block, (a.add (i * 3)).off + 1, none⟩ = some (.int .i64 q.day) ∧ w.cell? ⟨(a.add (i * 3)).block, (a.add (i * 3)).off + 2, none⟩ = some (.slice A n c) ∧ Lq w A n c q.ls := by
      intro i hi
      obtain ⟨cs', h1, h2⟩ := hx i (by omega)
      rw [cells_entry] at h1
      obtain ⟨_, hlen, hcell⟩ := World.cells?_some h1
      obtain ⟨xs, j, hj, hxy, _, hxl, hf⟩ := DataW.trod_struct Tryz.underlying28 h2
      match xs, hxl, cs', hlen with
      | [y0, y1, y2], _, [v0, v1, v2], _ =>
        have g0 := hf 0 _ rfl
        have g1 := hf 1 _ rfl
        have g2 := hf 2 _ rfl
        simp [cells_str, cells_int, cells_lines] at g0 g1 g2
        obtain ⟨s, e0, _, hs⟩ := DataW.trod_string Tryz.underlying9 g0
        obtain ⟨d, e1, _, _⟩ := DataW.trod_int Tryz.underlying3 g1
        obtain ⟨A, p, q, ls, e2, hls⟩ := open_ln g2
        simp at e0 e1
        subst e0 e1 e2
        have c0 := hcell 0 (by omega)
        have c1 := hcell 1 (by omega)
        have c2 := hcell 2 (by omega)
        rw [Addr.add_succ' (a.add (i * 3)) 0] at c1
        rw [Addr.add_succ' (a.add (i * 3)) 1] at c2
        refine ⟨⟨s, d, ls⟩, hs, A, p, q, ?_, by simpa using c1, by simpa using c2, hls.lq⟩
        have e : (a.add (i * 3)).add 0 = a.add (i * 3) := by rw [Addr.add_add]; rfl
        rw [e] at c0
        simpa using c0
    obtain ⟨q, hq⟩ := Deep.choose_lt each
    have hget : ∀ i, i < len → ne ((List.range len).map q) i = q i := fun i hi => by
      unfold ne
      rw [List.getD_eq_getElem?_getD, List.getElem?_map, List.getElem?_range hi]; rfl
    refine ⟨some a, len, cap, (List.range len).map q, rfl, ?_, by simp, hl, hm, fun h => by cases h⟩
    by_cases h0 : len = 0
    · subst h0; exact .inl rfl
    · refine .inr ⟨a, rfl, ?_, fun i hi => ?_⟩
      · obtain ⟨_, _, _, _, c1, _⟩ := hq 0 (by omega)
        have := World.block_lt_of_cell? _ _ c1
        rw [addb] at this; exact this
      · rw [hget i (by simpa using hi)]; exact hq i (by simpa using hi)

end Go.Proofs.YtohpibjjlfpaaaaGreatDoor

/- When are two entries the same: slices.Equal at lines, talref.Same. -/
namespace Go.Proofs.YtohpibjjlfpaaaaGreatDoor
open Go Go.ChangeShapes Go.WideShapes Go.ChangeAt Go.RowKit Go.PlainAid
set_option linter.unusedVariables false
set_option maxRecDepth 100000

theorem drewN2 (w : World) (m n : Nat) : (w.drewN m).drewN n = w.drewN (m + n) := by simp [World.drewN, Nat.add_assoc]
/-- how far two lists are the same -/
def eqUp (xs ys : List Ln) (k : Nat) : Prop := ∀ i, i < k → cd xs i = cd ys i ∧ am xs i = am ys i
theorem eq_of_up {xs ys : List Ln} {n : Nat} (h1 : xs.length = n) (h2 : ys.length = n) (h : eqUp xs ys n) : xs = ys := by
  apply List.ext_getElem (by omega)
  intro i hi hj
  obtain ⟨a, b⟩ := h i (by omega)
  rw [(cd_at xs i hi).1, (cd_at ys i hj).1] at a
  rw [(cd_at xs i hi).2, (cd_at ys i hj).2] at b
  exact Prod.ext a b
theorem up_of_ne {xs ys : List Ln} {k : Nat} (h : ¬ (cd xs k = cd ys k ∧ am xs k = am ys k)) : xs ≠ ys := fun e => h (by subst e; exact ⟨rfl, rfl⟩)

set_option maxRecDepth 100000 in
set_option maxHeartbeats 1600000 in
theorem equal_dec (A A' : Option Addr) (n c n' c' : Nat) (xs ys : List Ln) (w : World) (hr : Si w A xs) (hr' : Si w A' ys) (hn : xs.length = n) (hn' : ys.length = n') (hl : n ≤ maxLen) :
    Calls Tryz.prog 20 #[.slice A n c, .slice A' n' c'] w fun e w' => e = .returned (.bool (decide (xs = ys))) ∧ ∃ k, w' = w.drewN k := by
  unfold maxLen at hl
  have HR := Lib.hid hr
  have HR' := Lib.hid hr'
  have HN := Lib.hid hn
  have HN' := Lib.hid hn'
  clear hr hr' hn hn'
  by_cases hnn : n = n'
  · subst hnn
    go_enter Tryz.func20, Tryz.ntmps20
    go_wp2
    go_loopw [13] (fun i wr => ∃ k m : Nat, k ≤ n ∧ i = .int .i64 k ∧ Hid (eqUp xs ys k) ∧ wr = w.drewN m) (fun i _ => n - (intOf i).toNat)
    case atStart => exact ⟨0, 0, Nat.zero_le _, rfl, Lib.hid (fun i hi => absurd hi (Nat.not_lt_zero _)), rfl⟩
    case round =>
      obtain ⟨k, m, hk, rfl, HU, rfl⟩ := hrel
      by_cases hlt : k < n
      · obtain ⟨x, hA, hxb, c1, c2⟩ := HR.out.at_ k (by rw [HN.out]; exact hlt)
        obtain ⟨y, hA', hyb, d1, d2⟩ := HR'.out.at_ k (by rw [HN'.out]; exact hlt)
        subst hA hA'
        have HNe := Lib.hid (fun h : ¬ (cd xs k = cd ys k ∧ am xs k = am ys k) => up_of_ne h)
        have HYe := Lib.hid (fun h : (cd xs k = cd ys k ∧ am xs k = am ys k) => show eqUp xs ys (k + 1) from fun i hi => by
          by_cases e : i = k
          · subst e; exact h
          · exact HU.out i (by omega))
        generalize cd xs k = s at *
        generalize am xs k = a at *
        generalize cd ys k = t at *
        generalize am ys k = b at *
        have hi : ((k : Nat) : Int) < (n : Int) := by omega
        by_cases he : s = t ∧ a = b
        · have HY := Lib.hid (HYe.out he)
          obtain ⟨rfl, rfl⟩ := he
          go_wp2
          go_quiet (fail)
          go_wp2
          go_roundw
          case rel => exact ⟨k + 1, _, by omega, by go_num, HY, rfl⟩
          case measure => simp [intOf]; omega
        · have HF := Lib.hid (decide_eq_false (HNe.out he))
          by_cases hs : s = t
          · subst hs
            have hab : (a == b) = false := by
              cases h : (a == b)
              · rfl
              · simp at h; exact absurd ⟨rfl, h⟩ he
            go_wp2
            go_quiet (fail)
            go_wp2
            go_ret
            exact ⟨by rw [HF.out] <;> rfl, _, drewN2 _ _ _⟩
          · have hst : (s.toList == t.toList) = false := by rw [str_eq]; exact decide_eq_false hs
            go_wp2
            go_quiet (fail)
            go_wp2
            go_ret
            exact ⟨by rw [HF.out] <;> rfl, _, drewN2 _ _ _⟩
      · have e : k = n := by omega
        subst e
        have HF := Lib.hid (decide_eq_true (eq_of_up HN.out HN'.out HU.out))
        go_wp2
        go_ret
        exact ⟨by rw [HF.out] <;> rfl, _, rfl⟩
  · have HF := Lib.hid (decide_eq_false (show xs ≠ ys from fun e => hnn (by rw [← HN.out, ← HN'.out, e])))
    have hb : ((n : Int) != (n' : Int)) = true := by simp; omega
    go_enter Tryz.func20, Tryz.ntmps20
    go_wp2
    go_ret
    exact ⟨by rw [HF.out] <;> rfl, 0, rfl⟩

theorem en_eq (x y : En) : decide (x = y) = (decide (x.key = y.key) && decide (x.day = y.day) && decide (x.ls = y.ls)) := by
  by_cases h1 : x.key = y.key <;> by_cases h2 : x.day = y.day <;> by_cases h3 : x.ls = y.ls
  · rw [decide_eq_true (En.eq h1 h2 h3)]; simp [h1, h2, h3]
  all_goals (rw [decide_eq_false (fun e => by subst e; first | exact h1 rfl | exact h2 rfl | exact h3 rfl)]; simp [h1, h2, h3])

set_option maxHeartbeats 1600000 in
theorem rsame_any (x y : En) (A A' : Option Addr) (n c n' c' : Nat) (w : World) (hx : Lq w A n c x.ls) (hy : Lq w A' n' c' y.ls) :
    Calls Tryz.prog 56 #[.agg #[.string x.key, .int .i64 x.day, .slice A n c], .agg #[.string y.key, .int .i64 y.day, .slice A' n' c']] w fun e w' => e = .returned (.bool (decide (x = y))) ∧ Mor w w' := by
  have HE := Lib.hid (fun w' (h : Mor w w') => equal_dec A A' n c n' c' x.ls y.ls w' (hx.si.mor h) (hy.si.mor h) hx.length hy.length (Nat.le_trans hx.le hx.max))
  have HD := Lib.hid (en_eq x y)
  clear hx hy
  generalize decide (x = y) = r at *
  generalize decide (x.ls = y.ls) = b at *
  generalize x.key = s at *
  generalize y.key = t at *
  generalize x.day = d at *
  generalize y.day = d' at *
  by_cases h1 : s = t
  · subst h1
    by_cases h2 : d = d'
    · subst h2
      go_enter Tryz.func56, Tryz.ntmps56
      go_wp2_with ((go_at_call 20; (with_reducible refine (HE.out _ ((Mor.refl _).alloc.alloc)).mono ?_); rintro e w1 ⟨rfl, m, rfl⟩))
      go_ret
      exact ⟨by rw [HD.out] <;> simp, (Mor.refl _).alloc.alloc.drewN⟩
    · have hd : (d == d') = false := by simpa using h2
      go_enter Tryz.func56, Tryz.ntmps56
      go_wp2_with fail
      go_ret
      exact ⟨by rw [HD.out] <;> simp [h2], (Mor.refl _).alloc.alloc⟩
  · have hst : (s.toList == t.toList) = false := by rw [str_eq]; exact decide_eq_false h1
    go_enter Tryz.func56, Tryz.ntmps56
    go_wp2_with fail
    go_ret
    exact ⟨by rw [HD.out] <;> simp [h1], (Mor.refl _).alloc.alloc⟩

end Go.Proofs.YtohpibjjlfpaaaaGreatDoor

/- The walks of acct.Find, book.find, book.known, book.cmp. -/
namespace Go.Proofs.YtohpibjjlfpaaaaGreatDoor
open Go.ChangeShapes Go.WideShapes Go.ChangeAt Go.RowKit Go.PlainAid
set_option linter.unusedVariables false
set_option maxRecDepth 100000

theorem fidx_at {p : Nat → Bool} {n k : Nat} (h : ∀ j, j < k → p j = false) (hk : k < n) (hp : p k = true) : fidx p 0 n = k := by
  rcases fidx_spec p n 0 with ⟨_, hn⟩ | ⟨i, e, _, h2, h3, h4⟩
  · have := hn k (by omega) (by omega); rw [hp] at this; cases this
  · rw [e]
    rcases Nat.lt_trichotomy i k with hlt | hlt | hlt
    · have := h i hlt; rw [h3] at this; cases this
    · rw [hlt]
    · have := h4 k (by omega) hlt; rw [hp] at this; cases this
theorem fidx_no {p : Nat → Bool} {n : Nat} (h : ∀ j, j < n → p j = false) : fidx p 0 n = -1 := by
  rcases fidx_spec p n 0 with ⟨e, _⟩ | ⟨i, e, _, h2, h3, h4⟩
  · exact e
  · have := h i (by omega); rw [h3] at this; cases this

set_option maxHeartbeats 1600000 in
theorem index_ac (g : Nat) (cb : Array Value) (A : Option Addr) (n cap : Nat) (xs : List Ln) (p : Nat → Bool) (w : World) (eg : ∀ args w, (callFunc g args).run Tryz.prog w = .ok (.enter g args) w) (hr : Si w A xs) (hn : n ≤ xs.length) (hl : n ≤ 1000) (hf : SaysL w g cb xs p) :
    Calls Tryz.prog 82 #[.slice A n cap, .func (.func g) #[] cb] w fun e w' => e = .returned (.int .i64 (fidx p 0 n)) ∧ Mor w w' := by
  have HF := Lib.hid hf
  have HR := Lib.hid hr
  have HN := Lib.hid hn
  clear hf hr hn
  go_enter Tryz.func82, Tryz.ntmps82
  go_wp2
  go_loopw [8] (fun i wr => ∃ k : Nat, k ≤ n ∧ i = .int .i64 k ∧ Hid (∀ j, j < k → p j = false) ∧ Hid (Mor w wr)) (fun i _ => n - (intOf i).toNat)
  case atStart => exact ⟨0, Nat.zero_le _, rfl, Lib.hid (fun j hj => absurd hj (by omega)), Lib.hid (Mor.refl _)⟩
  case round =>
    obtain ⟨k, hk, rfl, HA, HM⟩ := hrel
    by_cases hlt : k < n
    · have hki : (k : Int) < (n : Int) := by omega
      have hk0 : (0 : Int) ≤ (k : Int) := by omega
      obtain ⟨x, hA, hxb, c1, c2⟩ := (HR.out.mor HM.out).at_ k (by have := HN.out; omega)
      subst hA
      have hc := HF.out k wr (by have := HN.out; omega) HM.out
      generalize cd xs k = s at *
      generalize am xs k = a at *
      cases hp : p k <;> rw [hp] at hc
      · have HG := Lib.hid (show ∀ j, j < k + 1 → p j = false from fun j hj => by
          by_cases e : j = k
          · subst e; exact hp
          · exact HA.out j (by omega))
        clear hp
        go_wp2_with (go_at_fn g; refine hc.mono ?_; rintro e w' ⟨rfl, hmw⟩)
        have HM' := Lib.hid (Mor.trans' HM.out hmw)
        clear hmw
        go_roundw
        case rel => exact ⟨k + 1, by omega, by go_num, HG, HM'⟩
        case measure => simp [intOf]; omega
      · have HP := Lib.hid (fidx_at HA.out hlt hp)
        clear hp
        go_wp2_with (go_at_fn g; refine hc.mono ?_; rintro e w' ⟨rfl, hmw⟩)
        have HM' := Lib.hid (Mor.trans' HM.out hmw)
        clear hmw
        go_ret
        exact ⟨by rw [HP.out] <;> rfl, HM'.out⟩
    · obtain rfl : k = n := by omega
      have HP := Lib.hid (fidx_no HA.out)
      go_wp2
      go_ret
      exact ⟨by rw [HP.out] <;> rfl, HM.out⟩

/-- a closure that says p of the entries es, and writes nothing of what was there -/
def SaysE (w : World) (g : Nat) (cb : Array Value) (es : List En) (p : Nat → Bool) : Prop :=
  ∀ (i : Nat) (w1 : World) (A : Option Addr) (n c : Nat), i < es.length → Mor w w1 → Calls Tryz.prog g (#[.agg #[.string (ne es i).key, .int .i64 (ne es i).day, .slice A n c]] ++ cb) w1 fun e w' => e = .returned (.bool (p i)) ∧ Mor w1 w'

set_option maxHeartbeats 1600000 in
theorem index_en (g : Nat) (cb : Array Value) (X : Option Addr) (n cap : Nat) (es : List En) (p : Nat → Bool) (w : World) (eg : ∀ args w, (callFunc g args).run Tryz.prog w = .ok (.enter g args) w) (hr : Es w X es) (hn : n ≤ es.length) (hl : n ≤ 1000) (hf : SaysE w g cb es p) :
    Calls Tryz.prog 66 #[.slice X n cap, .func (.func g) #[] cb] w fun e w' => e = .returned (.int .i64 (fidx p 0 n)) ∧ Mor w w' := by
  have HF := Lib.hid hf
  have HR := Lib.hid hr
  have HN := Lib.hid hn
  clear hf hr hn
  go_enter Tryz.func66, Tryz.ntmps66
  go_wp2
  go_loopw [8] (fun i wr => ∃ k : Nat, k ≤ n ∧ i = .int .i64 k ∧ Hid (∀ j, j < k → p j = false) ∧ Hid (Mor w wr)) (fun i _ => n - (intOf i).toNat)
  case atStart => exact ⟨0, Nat.zero_le _, rfl, Lib.hid (fun j hj => absurd hj (by omega)), Lib.hid (Mor.refl _)⟩
  case round =>
    obtain ⟨k, hk, rfl, HA, HM⟩ := hrel
    by_cases hlt : k < n
    · have hki : (k : Int) < (n : Int) := by omega
      have hk0 : (0 : Int) ≤ (k : Int) := by omega
      obtain ⟨x, A, m, c, hX, hxb, hks, c1, c2, c3, hq⟩ := (HR.out.mor HM.out).at_ k (by have := HN.out; omega)
      subst hX
      have hc := HF.out k wr A m c (by have := HN.out; omega) HM.out
      clear hks hq
      generalize (ne es k).key = s at *
      generalize (ne es k).day = a at *
      cases hp : p k <;> rw [hp] at hc
      · have HG := Lib.hid (show ∀ j, j < k + 1 → p j = false from fun j hj => by
          by_cases e : j = k
          · subst e; exact hp
          · exact HA.out j (by omega))
        clear hp
        go_wp2_with (go_at_fn g; refine hc.mono ?_; rintro e w' ⟨rfl, hmw⟩)
        have HM' := Lib.hid (Mor.trans' HM.out hmw)
        clear hmw
        go_roundw
        case rel => exact ⟨k + 1, by omega, by go_num, HG, HM'⟩
        case measure => simp [intOf]; omega
      · have HP := Lib.hid (fidx_at HA.out hlt hp)
        clear hp
        go_wp2_with (go_at_fn g; refine hc.mono ?_; rintro e w' ⟨rfl, hmw⟩)
        have HM' := Lib.hid (Mor.trans' HM.out hmw)
        clear hmw
        go_ret
        exact ⟨by rw [HP.out] <;> rfl, HM'.out⟩
    · obtain rfl : k = n := by omega
      have HP := Lib.hid (fidx_no HA.out)
      go_wp2
      go_ret
      exact ⟨by rw [HP.out] <;> rfl, HM.out⟩

set_option maxHeartbeats 400000 in
theorem clo_ac (g : Nat) (s s' : ByteArray) (n' : Int) (w : World) (hc : w.cell? ⟨g, 0, none⟩ = some (.string s)) (hg : g < w.heap.size) :
    Calls Tryz.prog 83 #[.agg #[.string s', .int .i64 n'], .pointer (some ⟨g, 0, none⟩)] w fun e w' => e = .returned (.bool (decide (s' = s))) ∧ Mor w w' := by
  go_enter Tryz.func83, Tryz.ntmps83
  go_wp2
  go_ret
  exact ⟨by simp [str_eq], by repeat (first | exact Mor.refl _ | apply Mor.alloc | apply Mor.more | apply Mor.drewN | apply Mor.drew)⟩
theorem str_cell (W w1 : World) (s : ByteArray) (t : TypeId) (hm : Mor (W.alloc (.cells #[.string s] t)) w1) : w1.cell? ⟨W.heap.size, 0, none⟩ = some (.string s) ∧ W.heap.size < w1.heap.size := by
  have hB := (Bk.new W t #[.string s]).mor hm
  exact ⟨by rw [hB.cell]; rfl, hB.lt⟩
theorem says_ac (W : World) (s : ByteArray) (xs : List Ln) : SaysL (W.alloc (.cells #[.string s] 9)) 83 #[.pointer (some ⟨W.heap.size, 0, none⟩)] xs (fun j => decide (cd xs j = s)) := by
  intro i w1 hi hm
  obtain ⟨h1, h2⟩ := str_cell _ _ _ _ hm
  exact clo_ac W.heap.size s (cd xs i) (am xs i) w1 h1 h2
set_option maxHeartbeats 400000 in
theorem find_ac (A : Option Addr) (n cap : Nat) (xs : List Ln) (s : ByteArray) (w : World) (hr : Si w A xs) (hn : xs.length = n) (hl : n ≤ 1000) :
    Calls Tryz.prog 59 #[.slice A n cap, .string s] w fun e w' => e = .returned (.int .i64 (findA xs s)) ∧ Mor w w' := by
  have HI := Lib.hid (index_ac 83 #[.pointer (some ⟨w.heap.size, 0, none⟩)] A n cap xs (fun j => decide (cd xs j = s)) (w.alloc (.cells #[.string s] 9)) (fun _ _ => rfl) (hr.mor (Mor.refl _).alloc) (by omega) hl (says_ac w s xs))
  have HE := Lib.hid (show fidx (fun j => decide (cd xs j = s)) 0 n = findA xs s by rw [← hn]; rfl)
  rw [HE.out] at HI
  clear hr hn HE
  generalize findA xs s = r at *
  go_enter Tryz.func59, Tryz.ntmps59
  go_wp2_with fail
  refine HI.out.mono ?_
  rintro e w1 ⟨rfl, hm⟩
  go_wp2_with fail
  go_ret
  exact ⟨rfl, (Mor.refl _).alloc.trans' hm⟩

set_option maxHeartbeats 400000 in
theorem clo_en (g : Nat) (s s' : ByteArray) (d : Int) (A : Option Addr) (n c : Nat) (w : World) (hc : w.cell? ⟨g, 0, none⟩ = some (.string s)) (hg : g < w.heap.size) :
    Calls Tryz.prog 67 #[.agg #[.string s', .int .i64 d, .slice A n c], .pointer (some ⟨g, 0, none⟩)] w fun e w' => e = .returned (.bool (decide (s' = s))) ∧ Mor w w' := by
  go_enter Tryz.func67, Tryz.ntmps67
  go_wp2
  go_ret
  exact ⟨by simp [str_eq], by repeat (first | exact Mor.refl _ | apply Mor.alloc | apply Mor.more | apply Mor.drewN | apply Mor.drew)⟩
theorem says_en (W : World) (s : ByteArray) (es : List En) : SaysE (W.alloc (.cells #[.string s] 9)) 67 #[.pointer (some ⟨W.heap.size, 0, none⟩)] es (fun j => decide ((ne es j).key = s)) := by
  intro i w1 A n c hi hm
  obtain ⟨h1, h2⟩ := str_cell _ _ _ _ hm
  exact clo_en W.heap.size s (ne es i).key (ne es i).day A n c w1 h1 h2
theorem sz1 (w : World) (o : Obj) : w.heap.size + 1 = (w.alloc o).heap.size := by show _ = (w.heap.push _).size; simp
theorem index_en_at {W : World} {s : ByteArray} {X : Option Addr} {m k g : Nat} {es : List En} (hr : Es W X es) (hn : es.length = m) (hl : m ≤ 1000) (hg : g = W.heap.size) :
    Calls Tryz.prog 66 #[.slice X m k, .func (.func 67) #[] #[.pointer (some ⟨g, 0, none⟩)]] (W.alloc (.cells #[.string s] 9)) fun e w' => e = .returned (.int .i64 (findE es s)) ∧ Mor (W.alloc (.cells #[.string s] 9)) w' := by
  subst hg
  have h := index_en 67 #[.pointer (some ⟨W.heap.size, 0, none⟩)] X m k es (fun j => decide ((ne es j).key = s)) (W.alloc (.cells #[.string s] 9)) (fun _ _ => rfl) (hr.mor (Mor.refl _).alloc) (by omega) hl (says_en W s es)
  have e : fidx (fun j => decide ((ne es j).key = s)) 0 m = findE es s := by rw [← hn]; rfl
  rw [e] at h
  exact h
set_option maxHeartbeats 800000 in
theorem find_en (A : Option Addr) (n c : Nat) (X : Option Addr) (m k : Nat) (sh : Int) (es : List En) (s : ByteArray) (w : World) (hr : Es w X es) (hn : es.length = m) (hl : m ≤ 1000) :
    Calls Tryz.prog 43 #[bv A n c X m k sh, .string s] w fun e w' => e = .returned (.int .i64 (findE es s)) ∧ Mor w w' := by
  have HI := Lib.hid (fun W (h : Mor w W) g hg => index_en_at (s := s) (k := k) (g := g) (hr.mor h) hn hl hg)
  clear hr hn
  generalize findE es s = r at *
  go_enter Tryz.func43, Tryz.ntmps43
  go_wp2_with fail
  refine (HI.out _ (Mor.refl _).alloc _ (sz1 _ _)).mono ?_
  rintro e w1 ⟨rfl, hm⟩
  have HM := Lib.hid (((Mor.refl w).alloc.alloc).trans' hm)
  clear hm
  go_wp2_with fail
  go_ret
  exact ⟨rfl, HM.out⟩

set_option maxHeartbeats 400000 in
theorem cmpstr_any (a b : ByteArray) (w : World) :
    Calls Tryz.prog 89 #[.string a, .string b] w fun e w' => e = .returned (.int .i64 (Lib.compareBytes a.data.toList b.data.toList)) ∧ w = w' := by
  go_enter Tryz.func89, Tryz.ntmps89
  go_wp2_with fail
  rw [run_callFunc_extern Tryz.func111 (by kernel_rfl) (by kernel_rfl) (by kernel_rfl) (e := Extern.BytealgCompare.compare) (by kernel_rfl), Lib.run_compareString]
  simp only [Result.andThen]
  rw [Oper.upon_value]
  go_wp2
  go_ret
  exact ⟨rfl, rfl⟩
set_option maxHeartbeats 400000 in
theorem strcmp_any (a b : ByteArray) (w : World) :
    Calls Tryz.prog 71 #[.string a, .string b] w fun e w' => e = .returned (.int .i64 (Lib.compareBytes a.data.toList b.data.toList)) ∧ w = w' := by
  have HC := Lib.hid (fun w => cmpstr_any a b w)
  generalize Lib.compareBytes a.data.toList b.data.toList = r at *
  go_enter Tryz.func71, Tryz.ntmps71
  go_wp2_with (go_at_call 89; (with_reducible refine (HC.out _).mono ?_); rintro e w1 ⟨rfl, rfl⟩)
  go_ret
  exact ⟨rfl, rfl⟩

set_option maxHeartbeats 800000 in
theorem cmp_any (x y : En) (A : Option Addr) (n c : Nat) (B : Option Addr) (m k : Nat) (w : World) (h1 : 0 ≤ x.day) (h2 : x.day ≤ 292193) (h3 : 0 ≤ y.day) (h4 : y.day ≤ 292193) :
    Calls Tryz.prog 48 #[.agg #[.string x.key, .int .i64 x.day, .slice A n c], .agg #[.string y.key, .int .i64 y.day, .slice B m k]] w fun e w' => e = .returned (.int .i64 (cmpE x y)) ∧ Mor w w' := by
  have HSC := Lib.hid (fun w => strcmp_any x.key y.key w)
  have HC := Lib.hid (show cmpE x y = if x.day = y.day then Lib.compareBytes x.key.data.toList y.key.data.toList else x.day - y.day from rfl)
  generalize cmpE x y = r at *
  generalize x.day = d at *
  generalize y.day = d' at *
  generalize x.key = s at *
  generalize y.key = s' at *
  by_cases hd : d = d'
  · subst hd
    rw [if_pos rfl] at HC
    go_enter Tryz.func48, Tryz.ntmps48
    generalize Lib.compareBytes s.data.toList s'.data.toList = q at *
    go_wp2_with (go_at_call 71; (with_reducible refine (HSC.out _).mono ?_); rintro e w1 ⟨rfl, rfl⟩)
    go_ret
    exact ⟨by rw [HC.out] <;> rfl, by repeat (first | exact Mor.refl _ | apply Mor.alloc | apply Mor.more | apply Mor.drewN | apply Mor.drew)⟩
  · rw [if_neg hd] at HC
    have hb : (d != d') = true := by simpa using hd
    have ew : IntKind.i64.wrap (d - d') = d - d' := IntWalk.i64_in _ (by omega)
    go_enter Tryz.func48, Tryz.ntmps48
    go_wp2_with fail
    go_ret
    exact ⟨by rw [HC.out] <;> rfl, by repeat (first | exact Mor.refl _ | apply Mor.alloc | apply Mor.more | apply Mor.drewN | apply Mor.drew)⟩

end Go.Proofs.YtohpibjjlfpaaaaGreatDoor
