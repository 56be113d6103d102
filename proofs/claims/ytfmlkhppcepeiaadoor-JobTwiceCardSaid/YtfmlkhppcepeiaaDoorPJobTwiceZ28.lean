/- Entries kept in a slice of the call's own; a book that stays where that slice grows. -/
import Derived.Test.YtfmlkhppcepeiaaDoorPJobTwiceZ1
import Derived.Test.YtfmlkhppcepeiaaDoorPJobTwiceZ2
import Derived.Test.YtfmlkhppcepeiaaDoorPJobTwiceZ3
import Derived.Test.YtfmlkhppcepeiaaDoorPJobTwiceZ4
import Derived.Test.YtfmlkhppcepeiaaDoorPJobTwiceZ5
import Derived.Test.YtfmlkhppcepeiaaDoorPJobTwiceZ6
import Derived.Test.YtfmlkhppcepeiaaDoorPJobTwiceZ7
import Derived.Test.YtfmlkhppcepeiaaDoorPJobTwiceZ8
import Derived.Test.YtfmlkhppcepeiaaDoorPJobTwiceZ9
import Derived.Test.YtfmlkhppcepeiaaDoorPJobTwiceZ10
import Derived.Test.YtfmlkhppcepeiaaDoorPJobTwiceZ11
import Derived.Test.YtfmlkhppcepeiaaDoorPJobTwiceZ13
import Derived.Test.YtfmlkhppcepeiaaDoorPJobTwiceZ14
import Derived.Test.YtfmlkhppcepeiaaDoorPJobTwiceZ20
import Derived.Test.YtfmlkhppcepeiaaDoorPJobTwiceZ21
import Derived.Test.YtfmlkhppcepeiaaDoorPJobTwiceZ22
import Derived.Test.YtfmlkhppcepeiaaDoorPJobTwiceZ23
import Derived.Test.YtfmlkhppcepeiaaDoorPJobTwiceZ24
import Derived.Test.YtfmlkhppcepeiaaDoorPJobTwiceZ25
import Derived.Test.YtfmlkhppcepeiaaDoorPJobTwiceZ26
import Derived.Test.YtfmlkhppcepeiaaDoorPJobTwiceZ27
import Derived.Test.YtfmlkhppcepeiaaDoorRows
import Derived.BigQuiet
import Derived.BigRegion
import Derived.Carry
import Derived.DataElems
import Derived.Deep.DeepCutAuto
import Derived.Deep.LoopGhost
import Derived.Deep.QuietTactic
import Derived.Deep.RegionHeld3
import Derived.Deep.RegionLaw
import Derived.Deep.RegionWith
import Derived.Deep.SlicePairs
import Derived.Deep.Slices
import Derived.Deep.Strs
import Derived.Handy
import Derived.IntWalk
import Derived.Laws.AppendOwn
import Derived.Laws.CopyOwn
import Derived.Laws.CopyRow
import Derived.Laws.Cover1
import Derived.Laws.Externs
import Derived.Laws.NewBlocks
import Derived.Lib.AppendZerosOnto
import Derived.Lib.Bytealg
import Derived.Lib.Hide
import Derived.Lib.Overlaps
import Derived.Lib.SliceRun
import Derived.Lib.Walk
import Derived.Maps.Own
import Derived.Maps.OwnSet
import Derived.Maps.Views
import Derived.OpenShut
import Derived.Outline
import Derived.OwnWalk
import Derived.PlainAid
import Derived.ProofKit
import Derived.RegionTactic
import Derived.Shelf.Abstract
import Derived.Shelf.RegionOpenPlain
import Derived.Sort.Walk0
import Derived.StringKeys
import Derived.WalkKit
import Derived.WalkSpells
namespace Go.Proofs.YtfmlkhppcepeiaaDoor
open Go.ChangeShapes Go.WideShapes Go.ChangeAt Go.RowKit Go.PlainAid
set_option linter.unusedVariables false

theorem step_append_own {P : Program} {ops : Array Oper} {o : Oper} {a : Act} {w : World} {K : Act → World → Prop} {Q : Exit → Act → World → Prop} {E : Prop} (hgd : o.guard = none) (s x : Operand) (t : TypeId)
    (ho : o.op = .call { callee := .builtin .append, args := #[s, x], argTypes := #[t, t] })
    (base : Nat) (e : TypeId) (i : TypeInfo) (z : Value) (size bytes : Nat) (ht : P.underlying t = some (.slice e)) (hi : P.info? e = some i) (hz : i.zero = some z)
    (hsize : i.size = size) (hby : i.bytes = bytes) (hzs : z.cells.size = size) (hsz : 0 < size)
    (v : Value) (n : Nat) (xs : List Value) (hs : a.eval s = v) (hown : w.ownsRow base e size v n xs)
    (ad : Addr) (m c : Nat) (news : List Value) (hx : a.eval x = .slice (some ad) m c) (hl : news.length = m * size) (hnews : ∀ j u, news[j]? = some u → w.cell? (ad.add j) = some u) (h1 : ∀ u ∈ news, u.oneCell' = true)
    (h63 : n + m ≤ maxLen) (hbytes : (n + m) * bytes ≤ 140737488355328) (hbase : base ≤ w.heap.size)
    (h : ∀ v' w', w'.ownsRow base e size v' (n + m) (xs ++ news) → w.grownBy w' v.ownBlock → K (a.put o.dst v') w') :
    if Region.wanted o (yielded ops a.tmps) = true then Oper.wp P o a w K Q else E := by
  have hw : Region.wanted o (yielded ops a.tmps) = true := by simp [Region.wanted, hgd]
  rw [if_pos hw]
  exact wp_append_own w s x t ho base e i z size bytes ht hi hz hsize hby hzs hsz v n xs hs hown ad m c news hx hl hnews h1 h63 hbytes hbase fun v' w' h2 h3 _ => h v' w' h2 h3
theorem own_step {w wr w1 : World} {T : TypeId} {s : Nat} {v : Value} {n : Nat} {xs : List Value} (hown : wr.ownsRow w.heap.size T s v n xs) (hnx : Mor w wr)
    (hgrow : wr.grownBy w1 v.ownBlock) : Mor w w1 := by
  refine Mor.of_below (hnx.below.grown hgrow hnx.below.size ?_)
  intro k hk
  obtain ⟨_, h | ⟨g, cap, cur, rfl, hg, _⟩⟩ := hown
  · rw [h.1] at hk; simp [Value.ownBlock] at hk
  · simp [Value.ownBlock] at hk; omega
/-- entries kept in a slice of one's own: each one's lines lie where they came from -/
def Dn (w0 w : World) (v : Value) (cnt : Nat) (d : List En) : Prop :=
  ∃ qs, w.ownsRow w0.heap.size 31 3 v cnt (flat ec qs) ∧ qs.length = cnt ∧ d.length = cnt ∧
    ∀ i, i < cnt → (qe qs i).key = (ne d i).key ∧ (qe qs i).day = (ne d i).day ∧ (ne d i).key.size ≤ maxLen ∧ Lq w0 (qe qs i).A (qe qs i).n (qe qs i).c (ne d i).ls
theorem Dn.start (w0 w : World) : Dn w0 w (.slice none 0 0) 0 [] := ⟨[], World.ownsRow_nil _ _ _ _, rfl, rfl, fun i hi => absurd hi (Nat.not_lt_zero _)⟩
theorem Dn.mor {w0 w w' : World} {v : Value} {cnt : Nat} {d : List En} (h : Dn w0 w v cnt d) (hm : Mor w w') : Dn w0 w' v cnt d := by
  obtain ⟨qs, h1, h2⟩ := h
  exact ⟨qs, own_mor h1 hm, h2⟩
theorem Dn.setT {w0 w : World} {v u : Value} {cnt g i : Nat} {d : List En} {cs : Array Value} (h : Dn w0 w v cnt d) (hb : Bk w g 45 cs) : Dn w0 (w.setCell ⟨g, i, none⟩ u) v cnt d := by
  obtain ⟨qs, h1, h2⟩ := h
  exact ⟨qs, own_setT h1 hb (by decide), h2⟩
theorem Dn.es {w0 w : World} {v : Value} {cnt : Nat} {d : List En} (h : Dn w0 w v cnt d) (hm : Mor w0 w) :
    ∃ X k, v = .slice X cnt k ∧ cnt ≤ k ∧ k ≤ maxLen ∧ (X = none → cnt = 0) ∧ Es w X d := by
  obtain ⟨qs, hr, hql, hdl, hen⟩ := h
  have hr2 := hr
  obtain ⟨hlen, hh | ⟨g, cap, cur, rfl, hg, hb, h1, h2, h3, h4⟩⟩ := hr2
  · obtain ⟨rfl, rfl⟩ := hh
    exact ⟨none, 0, rfl, Nat.le_refl _, by unfold maxLen; omega, fun _ => rfl, .inl (List.eq_nil_of_length_eq_zero hdl)⟩
  · refine ⟨_, cap, rfl, h1, h2, (fun h => by cases h), ?_⟩
    by_cases h0 : d = []
    · exact .inl h0
    refine .inr ⟨_, rfl, (Array.getElem?_eq_some_iff.1 hb).1, fun i hi => ?_⟩
    have hi' : i < qs.length := by rw [hql, ← hdl]; exact hi
    obtain ⟨hk, hd, hs, hl⟩ := hen i (by rw [← hdl]; exact hi)
    obtain ⟨b', o', hA', _, hc⟩ := Rd.field 3 ec_len (Rd.own hr) i hi' (by omega)
    injection hA' with hA'
    injection hA' with e1 e2
    subst e1 e2
    have c0 := hc 0 (by omega)
    have c1 := hc 1 (by omega)
    have c2 := hc 2 (by omega)
    have eq1 : qs[i] = qe qs i := (qe_eq qs i hi').symm
    rw [adds]
    refine ⟨hs, (qe qs i).A, (qe qs i).n, (qe qs i).c, ?_, ?_, ?_, hl.mor hm⟩
    · rw [← hk, ← eq1]; simpa [ec] using c0
    · rw [← hd, ← eq1]; simpa [ec] using c1
    · rw [← eq1]; simpa [ec] using c2
theorem ne_old (d : List En) (x : En) (i : Nat) (h : i < d.length) : ne (d ++ [x]) i = ne d i := by
  rw [ne_eq _ _ (by rw [List.length_append]; omega), ne_eq _ _ h, List.getElem_append_left h]
theorem ne_last (d : List En) (x : En) : ne (d ++ [x]) d.length = x := by
  rw [ne_eq _ _ (by rw [List.length_append]; simp), List.getElem_append_right (Nat.le_refl _)]; simp
theorem Dn.snoc {w0 w' : World} {v' : Value} {cnt : Nat} {d : List En} {qs : List Ev} {ky : ByteArray} {dy : Int} {A : Option Addr} {n c : Nat} {ls : List Ln} (hql : qs.length = cnt) (hdl : d.length = cnt)
    (hen : ∀ i, i < cnt → (qe qs i).key = (ne d i).key ∧ (qe qs i).day = (ne d i).day ∧ (ne d i).key.size ≤ maxLen ∧ Lq w0 (qe qs i).A (qe qs i).n (qe qs i).c (ne d i).ls)
    (hr : w'.ownsRow w0.heap.size 31 3 v' (cnt + 1) (flat ec qs ++ [.string ky, .int .i64 dy, .slice A n c])) (hks : ky.size ≤ maxLen) (hl : Lq w0 A n c ls) : Dn w0 w' v' (cnt + 1) (d ++ [⟨ky, dy, ls⟩]) := by
  refine ⟨qs ++ [⟨ky, dy, A, n, c⟩], by rw [flat_snoc]; exact hr, by rw [List.length_append, hql]; rfl, by rw [List.length_append, hdl]; rfl, fun i hi => ?_⟩
  by_cases e : i < cnt
  · rw [qe_old _ _ _ (by omega), ne_old _ _ _ (by omega)]
    exact hen i e
  · have e : i = cnt := by omega
    subst e
    have h1 : qe (qs ++ [⟨ky, dy, A, n, c⟩]) i = ⟨ky, dy, A, n, c⟩ := by rw [← hql]; exact qe_last _ _
    have h2 : ne (d ++ [⟨ky, dy, ls⟩]) i = ⟨ky, dy, ls⟩ := by rw [← hdl]; exact ne_last _ _
    rw [h1, h2]
    exact ⟨rfl, rfl, hks, hl⟩
end Go.Proofs.YtfmlkhppcepeiaaDoor
