/- Entries kept in a slice of the call's own; a book that stays where that slice grows. -/
import Derived.Test.YtpgefclnplmlkaaOrdA
import Derived.Laws.AppendOwn
import Derived.Deep.RegionLaw
namespace Go.Proofs.Ytpgefclnplmlkaa
open Go.ChangeShapes Go.WideShapes Go.ChangeAt Go.RowKit Go.PlainAid
set_option linter.unusedVariables false

theorem step_append_own {P : Program} {ops : Array Oper} {o : Oper} {a : Act} {w : World} {K : Act → World → Prop} {Q : Exit → Act → World → Prop} {E : Prop} (hgd : o.guard = none) (s x : Operand) (t : TypeId)
    (ho : o.op = .call { callee := .builtin .append, args := #[s, x], argTypes := #[t, t] })
    (base : Nat) (e : TypeId) (i : TypeInfo) (z : Value) (size bytes : Nat) (ht : P.underlying t = some (.slice e)) (hi : P.info? e = some i) (hz : i.zero = some z)
    (hsize : i.size = size) (hby : i.bytes = bytes) (hzs : z.cells.size = size) (hsz : 0 < size)
    (v : Value) (n : Nat) (xs : List Value) (hs : a.eval s = v) (hown : w.ownsRow base e size v n xs)
    (ad : Addr) (m c : Nat) (news : List Value) (hx : a.eval x = .slice (some ad) m c) (hl : news.length = m * size) (hnews : ∀ j u, news[j]? = some u → w.cell? (ad.add j) = some u) (h1 : ∀ u ∈ news, u.oneCell' = true)
    (h63 : n + m ≤ maxLen) (hbytes : (n + m) * bytes ≤ 140737488355328) (hbase : base ≤ w.heap.size)
    (h : ∀ v' w', w'.ownsRow base e size v' (n + m) (xs ++ news) → w.grownBy w' v.ownBlock → K (a.put o.dst v') w') :
    if Region.wanted o (yielded ops a.tmps) = true then Oper.wp P o a w K Q else E := by
  have hw : Region.wanted o (yielded ops a.tmps) = true := by simp [Region.wanted, hgd]
  rw [if_pos hw]
  exact wp_append_own w s x t ho base e i z size bytes ht hi hz hsize hby hzs hsz v n xs hs hown ad m c news hx hl hnews h1 h63 hbytes hbase fun v' w' h2 h3 _ => h v' w' h2 h3
theorem own_step {w wr w1 : World} {T : TypeId} {s : Nat} {v : Value} {n : Nat} {xs : List Value} (hown : wr.ownsRow w.heap.size T s v n xs) (hnx : Mor w wr)
    (hgrow : wr.grownBy w1 v.ownBlock) : Mor w w1 := by
  refine Mor.of_below (hnx.below.grown hgrow hnx.below.size ?_)
  intro k hk
  obtain ⟨_, h | ⟨g, cap, cur, rfl, hg, _⟩⟩ := hown
  · rw [h.1] at hk; simp [Value.ownBlock] at hk
  · simp [Value.ownBlock] at hk; omega
theorem own_growlt {w w' : World} {B s n : Nat} {T : TypeId} {v : Value} {xs : List Value} {r : Option Nat} (h : w.ownsRow B T s v n xs) (hg : w.grownBy w' r) (hr : ∀ g, r = some g → g < B) : w'.ownsRow B T s v n xs := by
  refine ⟨h.1, ?_⟩
  rcases h.2 with hn | ⟨g, cap, cur2, rfl, hg2, hh, rest⟩
  · exact .inl hn
  · exact .inr ⟨g, cap, cur2, rfl, hg2, (hg.block g (Array.getElem?_eq_some_iff.1 hh).1 (fun e => by have := hr g e.symm; omega)).trans hh, rest⟩
/-- a book stays where an older slice grows -/
theorem OwnB.growlt {w w' : World} {B n m : Nat} {vA vX : Value} {b : Bok} {r : Option Nat} (h : OwnB w B vA vX n m b) (hg : w.grownBy w' r) (hr : ∀ g, r = some g → g < B) : OwnB w' B vA vX n m b := by
  obtain ⟨qs, hq⟩ := h.es
  exact ⟨own_growlt h.ac hg hr, h.al, h.astr, qs, own_growlt hq.row hg hr, hq.ql, hq.el, fun i hi => ⟨(hq.ent i hi).key, (hq.ent i hi).day, own_growlt (hq.ent i hi).row hg hr, (hq.ent i hi).len, (hq.ent i hi).ks, (hq.ent i hi).str⟩⟩
/-- entries kept in a slice of one's own: each one's lines lie where they came from -/
def Dn (w0 w : World) (v : Value) (cnt : Nat) (d : List En) : Prop :=
  ∃ qs, w.ownsRow w0.heap.size 42 3 v cnt (flat ec qs) ∧ qs.length = cnt ∧ d.length = cnt ∧
    ∀ i, i < cnt → (qe qs i).key = (ne d i).key ∧ (qe qs i).day = (ne d i).day ∧ (ne d i).key.size ≤ maxLen ∧ Lq w0 (qe qs i).A (qe qs i).n (qe qs i).c (ne d i).ls
theorem Dn.start (w0 w : World) : Dn w0 w (.slice none 0 0) 0 [] := ⟨[], World.ownsRow_nil _ _ _ _, rfl, rfl, fun i hi => absurd hi (Nat.not_lt_zero _)⟩
theorem Dn.mor {w0 w w' : World} {v : Value} {cnt : Nat} {d : List En} (h : Dn w0 w v cnt d) (hm : Mor w w') : Dn w0 w' v cnt d := by
  obtain ⟨qs, h1, h2⟩ := h
  exact ⟨qs, own_mor h1 hm, h2⟩
theorem Dn.setT {w0 w : World} {v u : Value} {cnt g i : Nat} {d : List En} {cs : Array Value} (h : Dn w0 w v cnt d) (hb : Bk w g 25 cs) : Dn w0 (w.setCell ⟨g, i, none⟩ u) v cnt d := by
  obtain ⟨qs, h1, h2⟩ := h
  exact ⟨qs, own_setT h1 hb (by decide), h2⟩
theorem Dn.set3 {w0 w : World} {v a a' a'' z z' z'' : Value} {cnt g : Nat} {d : List En} (h : Dn w0 w v cnt d) (hb : Bk w g 25 #[z, z', z'']) :
    Dn w0 (((w.setCell ⟨g, 0, none⟩ a).setCell ⟨g, 1, none⟩ a').setCell ⟨g, 2, none⟩ a'') v cnt d :=
  ((h.setT hb).setT (hb.set_ 0 a)).setT ((hb.set_ 0 a).set_ 1 a')
theorem Dn.es {w0 w : World} {v : Value} {cnt : Nat} {d : List En} (h : Dn w0 w v cnt d) (hm : Mor w0 w) :
    ∃ X k, v = .slice X cnt k ∧ cnt ≤ k ∧ k ≤ maxLen ∧ (X = none → cnt = 0) ∧ Es w X d := by
  obtain ⟨qs, hr, hql, hdl, hen⟩ := h
  have hr2 := hr
  obtain ⟨hlen, hh | ⟨g, cap, cur, rfl, hg, hb, h1, h2, h3, h4⟩⟩ := hr2
  · obtain ⟨rfl, rfl⟩ := hh
    exact ⟨none, 0, rfl, Nat.le_refl _, by unfold maxLen; omega, fun _ => rfl, .inl (List.eq_nil_of_length_eq_zero hdl)⟩
  · refine ⟨_, cap, rfl, h1, h2, (fun h => by cases h), ?_⟩
    by_cases h0 : d = []
    · exact .inl h0
    refine .inr ⟨_, rfl, (Array.getElem?_eq_some_iff.1 hb).1, fun i hi => ?_⟩
    have hi' : i < qs.length := by rw [hql, ← hdl]; exact hi
    obtain ⟨hk, hd, hs, hl⟩ := hen i (by rw [← hdl]; exact hi)
    obtain ⟨b', o', hA', _, hc⟩ := Rd.field 3 ec_len (Rd.own hr) i hi' (by omega)
    injection hA' with hA'
    injection hA' with e1 e2
    subst e1 e2
    have c0 := hc 0 (by omega)
    have c1 := hc 1 (by omega)
    have c2 := hc 2 (by omega)
    have eq1 : qs[i] = qe qs i := (qe_eq qs i hi').symm
    rw [adds]
    refine ⟨hs, (qe qs i).A, (qe qs i).n, (qe qs i).c, ?_, ?_, ?_, hl.mor hm⟩
    · rw [← hk, ← eq1]; simpa [ec] using c0
    · rw [← hd, ← eq1]; simpa [ec] using c1
    · rw [← eq1]; simpa [ec] using c2
theorem ne_old (d : List En) (x : En) (i : Nat) (h : i < d.length) : ne (d ++ [x]) i = ne d i := by
  rw [ne_eq _ _ (by rw [List.length_append]; omega), ne_eq _ _ h, List.getElem_append_left h]
theorem ne_last (d : List En) (x : En) : ne (d ++ [x]) d.length = x := by
  rw [ne_eq _ _ (by rw [List.length_append]; simp), List.getElem_append_right (Nat.le_refl _)]; simp
theorem Dn.snoc {w0 w' : World} {v' : Value} {cnt : Nat} {d : List En} {qs : List Ev} {ky : ByteArray} {dy : Int} {A : Option Addr} {n c : Nat} {ls : List Ln} (hql : qs.length = cnt) (hdl : d.length = cnt)
    (hen : ∀ i, i < cnt → (qe qs i).key = (ne d i).key ∧ (qe qs i).day = (ne d i).day ∧ (ne d i).key.size ≤ maxLen ∧ Lq w0 (qe qs i).A (qe qs i).n (qe qs i).c (ne d i).ls)
    (hr : w'.ownsRow w0.heap.size 42 3 v' (cnt + 1) (flat ec qs ++ [.string ky, .int .i64 dy, .slice A n c])) (hks : ky.size ≤ maxLen) (hl : Lq w0 A n c ls) : Dn w0 w' v' (cnt + 1) (d ++ [⟨ky, dy, ls⟩]) := by
  refine ⟨qs ++ [⟨ky, dy, A, n, c⟩], by rw [flat_snoc]; exact hr, by rw [List.length_append, hql]; rfl, by rw [List.length_append, hdl]; rfl, fun i hi => ?_⟩
  by_cases e : i < cnt
  · rw [qe_old _ _ _ (by omega), ne_old _ _ _ (by omega)]
    exact hen i e
  · have e : i = cnt := by omega
    subst e
    have h1 : qe (qs ++ [⟨ky, dy, A, n, c⟩]) i = ⟨ky, dy, A, n, c⟩ := by rw [← hql]; exact qe_last _ _
    have h2 : ne (d ++ [⟨ky, dy, ls⟩]) i = ⟨ky, dy, ls⟩ := by rw [← hdl]; exact ne_last _ _
    rw [h1, h2]
    exact ⟨rfl, rfl, hks, hl⟩
/-- a variable holds the book that Post handed back (one variable alone) -/
theorem putZ_last {w : World} {bs : List Obj} {dr B n c m k : Nat} {A X : Option Addr} {sh : Int} {y : Bok} (h : OwnB (more w bs dr) B (.slice A n c) (.slice X m k) n m y) :
    PutY w ((more w bs dr).alloc (.cells #[.slice A n c, .slice X m k, .int .i64 sh] 25)) sh y (.int .i64 0) (.pointer (some ⟨w.heap.size + bs.length, 0, none⟩)) :=
  ⟨_, A, n, c, X, m, k, rfl, rfl, newAt (by simp), ⟨B, h.mor (Mor.refl _).alloc⟩, (Mor.refl w).more.alloc⟩
theorem putZ_first {w : World} {bs : List Obj} {dr B n c m k : Nat} {A X : Option Addr} {z z' z'' : Value} {sh : Int} {y : Bok} (h : OwnB (more (w.alloc (.cells #[z, z', z''] 25)) bs dr) B (.slice A n c) (.slice X m k) n m y) :
    PutY w (more (w.alloc (.cells #[.slice A n c, .slice X m k, .int .i64 sh] 25)) bs dr) sh y (.int .i64 0) (.pointer (some ⟨w.heap.size, 0, none⟩)) := by
  refine ⟨_, A, n, c, X, m, k, rfl, rfl, (newAt rfl).more _ _, ⟨B, ?_⟩, (Mor.refl w).alloc.more⟩
  have hb : Bk (more (w.alloc (.cells #[z, z', z''] 25)) bs dr) w.heap.size 25 #[z, z', z''] := (newAt rfl).more _ _
  have h2 := own3 (a := .slice A n c) (a' := .slice X m k) (a'' := .int .i64 sh) h hb
  rw [show (((more (w.alloc (.cells #[z, z', z''] 25)) bs dr).setCell ⟨w.heap.size, 0, none⟩ (.slice A n c)).setCell ⟨w.heap.size, 1, none⟩ (.slice X m k)).setCell ⟨w.heap.size, 2, none⟩ (.int .i64 sh) = more (w.alloc (.cells #[.slice A n c, .slice X m k, .int .i64 sh] 25)) bs dr by simp [go_sem]] at h2
  exact h2

end Go.Proofs.Ytpgefclnplmlkaa
