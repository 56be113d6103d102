/- append to a row of the call's own, as one step of a region that draws its order. -/
import Derived.Test.YtphkckonnogjmaaCloneIt
import Derived.Laws.AppendOwn
import Derived.Deep.RegionLaw
namespace Go.Proofs.Ytphkckonnogjmaa
open Go Go.RowKit
set_option linter.unusedVariables false

theorem step_append_own {P : Program} {ops : Array Oper} {o : Oper} {a : Act} {w : World} {K : Act → World → Prop} {Q : Exit → Act → World → Prop} {E : Prop} (hgd : o.guard = none) (s x : Operand) (t : TypeId)
    (ho : o.op = .call { callee := .builtin .append, args := #[s, x], argTypes := #[t, t] })
    (base : Nat) (e : TypeId) (i : TypeInfo) (z : Value) (size bytes : Nat) (ht : P.underlying t = some (.slice e)) (hi : P.info? e = some i) (hz : i.zero = some z)
    (hsize : i.size = size) (hby : i.bytes = bytes) (hzs : z.cells.size = size) (hsz : 0 < size)
    (v : Value) (n : Nat) (xs : List Value) (hs : a.eval s = v) (hown : w.ownsRow base e size v n xs)
    (ad : Addr) (m c : Nat) (news : List Value) (hx : a.eval x = .slice (some ad) m c) (hl : news.length = m * size) (hnews : ∀ j u, news[j]? = some u → w.cell? (ad.add j) = some u) (h1 : ∀ u ∈ news, u.oneCell' = true)
    (h63 : n + m ≤ maxLen) (hbytes : (n + m) * bytes ≤ 140737488355328) (hbase : base ≤ w.heap.size)
    (h : ∀ v' w', w'.ownsRow base e size v' (n + m) (xs ++ news) → w.grownBy w' v.ownBlock → K (a.put o.dst v') w') :
    if Region.wanted o (yielded ops a.tmps) = true then Oper.wp P o a w K Q else E := by
  have hw : Region.wanted o (yielded ops a.tmps) = true := by simp [Region.wanted, hgd]
  rw [if_pos hw]
  exact wp_append_own w s x t ho base e i z size bytes ht hi hz hsize hby hzs hsz v n xs hs hown ad m c news hx hl hnews h1 h63 hbytes hbase fun v' w' h2 h3 _ => h v' w' h2 h3
theorem own_step0 {w wr w1 : World} {T : TypeId} {s : Nat} {v : Value} {n : Nat} {xs : List Value} (hown : wr.ownsRow w.heap.size T s v n xs) (hnx : Below w.heap.size w wr)
    (hgrow : wr.grownBy w1 v.ownBlock) : Below w.heap.size w w1 := by
  refine hnx.grown hgrow hnx.size ?_
  intro k hk
  obtain ⟨_, h | ⟨g, cap, cur, rfl, hg, _⟩⟩ := hown
  · rw [h.1] at hk; simp [Value.ownBlock] at hk
  · simp [Value.ownBlock] at hk; omega
/-- two cells that were just laid -/
theorem two_new (w : World) (u v : Value) (t : TypeId) : ∀ j x, [u, v][j]? = some x → (w.alloc (.cells #[u, v] t)).cell? ((⟨w.heap.size, 0, none⟩ : Addr).add j) = some x := by
  intro j x hj
  rw [add_mk, World.cell?_alloc_new]
  match j, hj with
  | 0, hj => simpa using hj
  | 1, hj => simpa using hj
theorem cell_mor {w w' : World} (h : Mor w w') {p : Addr} {v : Value} (hc : w.cell? p = some v) : w'.cell? p = some v :=
  (h.below.cell (p := p) (World.block_lt_of_cell? _ _ hc)).trans hc
theorem one_two (u v : Int) : ∀ x ∈ [Value.int .i64 u, .int .i64 v], x.oneCell' = true := by
  intro x hx; simp at hx; rcases hx with rfl | rfl <;> rfl

end Go.Proofs.Ytphkckonnogjmaa
