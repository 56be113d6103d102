/- The walk of trial.kinds: what the accounts of each kind come to. -/
import Derived.Test.YtdpphneebikdpaaPTopOwedZ1
import Derived.Test.YtdpphneebikdpaaPTopOwedZ2
import Derived.Test.YtdpphneebikdpaaPTopOwedZ3
import Derived.Test.YtdpphneebikdpaaPTopOwedZ4
import Derived.Test.YtdpphneebikdpaaPTopOwedZ5
import Derived.Test.YtdpphneebikdpaaPTopOwedZ6
import Derived.Test.YtdpphneebikdpaaPTopOwedZ7
import Derived.Test.YtdpphneebikdpaaPTopOwedZ8
import Derived.Test.YtdpphneebikdpaaPTopOwedZ9
import Derived.Test.YtdpphneebikdpaaPTopOwedZ10
import Derived.Test.YtdpphneebikdpaaPTopOwedZ11
import Derived.Test.YtdpphneebikdpaaPTopOwedZ12
import Derived.Test.YtdpphneebikdpaaPTopOwedZ13
import Derived.Test.YtdpphneebikdpaaPTopOwedZ14
import Derived.Test.YtdpphneebikdpaaPTopOwedZ15
import Derived.Test.YtdpphneebikdpaaPTopOwedZ16
import Derived.Test.YtdpphneebikdpaaPTopOwedZ17
import Derived.Test.YtdpphneebikdpaaPTopOwedZ18
import Derived.Test.YtdpphneebikdpaaPTopOwedZ19
import Derived.Test.YtdpphneebikdpaaPTopOwedZ20
import Derived.Test.YtdpphneebikdpaaPTopOwedZ21
import Derived.Test.YtdpphneebikdpaaPTopOwedZ22
import Derived.Test.YtdpphneebikdpaaRows
import Derived.BigQuiet
import Derived.BigRegion
import Derived.Carry
import Derived.DataElems
import Derived.Deep.DeepCutAuto
import Derived.Deep.LoopGhost
import Derived.Deep.QuietTactic
import Derived.Deep.RegionHeld3
import Derived.Deep.RegionLaw
import Derived.Deep.RegionWith
import Derived.Deep.SlicePairs
import Derived.Deep.Slices
import Derived.Deep.Strs
import Derived.Handy
import Derived.IntWalk
import Derived.Laws.AppendOwn
import Derived.Laws.CopyOwn
import Derived.Laws.CopyRow
import Derived.Laws.Cover1
import Derived.Laws.Externs
import Derived.Laws.NewBlocks
import Derived.Lib.AppendZerosOnto
import Derived.Lib.Bytealg
import Derived.Lib.Hide
import Derived.Lib.Overlaps
import Derived.Lib.SliceRun
import Derived.Lib.Walk
import Derived.Maps.Own
import Derived.Maps.OwnSet
import Derived.Maps.Views
import Derived.OpenShut
import Derived.Outline
import Derived.OwnWalk
import Derived.PlainAid
import Derived.ProofKit
import Derived.RegionTactic
import Derived.Shelf.Abstract
import Derived.Shelf.RegionOpenPlain
import Derived.Sort.Walk0
import Derived.StringKeys
import Derived.WalkKit
import Derived.WalkSpells
namespace Go.Proofs.Ytdpphneebikdpaa
open Go.ChangeShapes Go.WideShapes Go.ChangeAt Go.RowKit Go.PlainAid
set_option linter.unusedVariables false
set_option maxRecDepth 100000

theorem Mor.setC {w w' : World} {g i : Nat} {u : Value} (h : Mor w w') (hg : w.heap.size ≤ g) : Mor w (w'.setCell ⟨g, i, none⟩ u) := Mor.of_below (h.below.setCell hg u)
end Go.Proofs.Ytdpphneebikdpaa

/- Where a book that Post hands back lies when its variable was made ahead of it, or behind it. -/
namespace Go.Proofs.Ytdpphneebikdpaa
open Go.ChangeShapes Go.WideShapes Go.ChangeAt Go.RowKit Go.PlainAid
set_option linter.unusedVariables false
set_option maxRecDepth 100000

theorem newAt {w : World} {T : TypeId} {cs : Array Value} {g : Nat} (h : w.heap.size = g) : Bk (w.alloc (.cells cs T)) g T cs := by
  subst h; exact Bk.new w T cs
theorem own3 {W : World} {base g n m : Nat} {vA vX a a' a'' z z' z'' : Value} {b : Bok} (h : OwnB W base vA vX n m b) (hb : Bk W g 41 #[z, z', z'']) :
    OwnB (((W.setCell ⟨g, 0, none⟩ a).setCell ⟨g, 1, none⟩ a').setCell ⟨g, 2, none⟩ a'') base vA vX n m b :=
  ((h.setT hb).setT (hb.set_ 0 a)).setT ((hb.set_ 0 a).set_ 1 a')
/-- a variable holds the book that Post handed back -/
def PutY (w wx : World) (sh : Int) (y : Bok) (e p : Value) : Prop := ∃ g A n c X m k, e = .int .i64 0 ∧ p = .pointer (some ⟨g, 0, none⟩) ∧ Bk wx g 41 #[.slice A n c, .slice X m k, .int .i64 sh] ∧ (∃ B, OwnB wx B (.slice A n c) (.slice X m k) n m y) ∧ Mor w wx
end Go.Proofs.Ytdpphneebikdpaa

/- A book that entries are posted to, one after another; the walk of talkeep.made. -/
namespace Go.Proofs.Ytdpphneebikdpaa
open Go.ChangeShapes Go.WideShapes Go.ChangeAt Go.RowKit Go.PlainAid
set_option linter.unusedVariables false
set_option maxRecDepth 100000

/-- the book behind an entry, be it refused or not -/
def stepb (b : Bok) (x : En) : Bok := if postc b x = 0 then postb b x else b
/-- the book behind entries -/
def madeb (b : Bok) (es : List En) : Bok := es.foldl stepb b
theorem stepb_yes {b : Bok} {x : En} (h : postc b x = 0) : stepb b x = postb b x := by unfold stepb; rw [if_pos h]
theorem stepb_no {b : Bok} {x : En} (h : postc b x ≠ 0) : stepb b x = b := by unfold stepb; rw [if_neg h]
theorem madeb_take (b : Bok) (es : List En) (j : Nat) (hj : j < es.length) : madeb b (es.take (j + 1)) = stepb (madeb b (es.take j)) (ne es j) := by
  unfold madeb
  rw [List.take_succ_eq_append_getElem hj, List.foldl_append, ne_eq _ _ hj]
  rfl
/-- the book is the one that came in, or one's own -/
def Hld (w : World) (A0 : Option Addr) (n c0 : Nat) (X0 : Option Addr) (m0 k0 : Nat) (b0 : Bok) (A : Option Addr) (c : Nat) (X : Option Addr) (m k : Nat) (b : Bok) : Prop :=
  (A = A0 ∧ c = c0 ∧ X = X0 ∧ m = m0 ∧ k = k0 ∧ b = b0) ∨ ∃ B, OwnB w B (.slice A n c) (.slice X m k) n m b
section
variable {w w' : World} {A0 : Option Addr} {n c0 : Nat} {X0 : Option Addr} {m0 k0 : Nat} {b0 : Bok} {A : Option Addr} {c : Nat} {X : Option Addr} {m k : Nat} {b : Bok}
theorem Hld.start : Hld w A0 n c0 X0 m0 k0 b0 A0 c0 X0 m0 k0 b0 := .inl ⟨rfl, rfl, rfl, rfl, rfl, rfl⟩
theorem Hld.mor (h : Hld w A0 n c0 X0 m0 k0 b0 A c X m k b) (hm : Mor w w') : Hld w' A0 n c0 X0 m0 k0 b0 A c X m k b := by
  rcases h with h | ⟨B, h⟩
  · exact .inl h
  · exact .inr ⟨B, h.mor hm⟩
theorem own_bq {B : Nat} (h : OwnB w B (.slice A n c) (.slice X m k) n m b) : Bq w A n c X m k b := by
  obtain ⟨A', c', X', k', e1, e2, hb⟩ := h.bq
  injection e1 with e1 _ e3
  injection e2 with e4 _ e6
  subst e1 e3 e4 e6
  exact hb
theorem Hld.bq (h : Hld w' A0 n c0 X0 m0 k0 b0 A c X m k b) (hb : Bq w A0 n c0 X0 m0 k0 b0) (hm : Mor w w') : Bq w' A n c X m k b := by
  rcases h with ⟨rfl, rfl, rfl, rfl, rfl, rfl⟩ | ⟨B, h⟩
  · exact hb.mor hm
  · exact own_bq h
theorem Hld.store {g : Nat} {z z' z'' a a' a'' : Value} (h : Hld w A0 n c0 X0 m0 k0 b0 A c X m k b) (hg : Bk w g 41 #[z, z', z'']) :
    Hld (((w.setCell ⟨g, 0, none⟩ a).setCell ⟨g, 1, none⟩ a').setCell ⟨g, 2, none⟩ a'') A0 n c0 X0 m0 k0 b0 A c X m k b := by
  rcases h with h | ⟨B, h⟩
  · exact .inl h
  · exact .inr ⟨B, own3 h hg⟩
theorem Hld.own {B : Nat} (h : OwnB w B (.slice A n c) (.slice X m k) n m b) : Hld w A0 n c0 X0 m0 k0 b0 A c X m k b := .inr ⟨B, h⟩
end
theorem postYes_own {w w' : World} {b : Bok} {e : Ending} {n : Nat} (h : PostYes w b e w') (hn : b.ac.length = n) : ∃ A c X m k, e = .returned (.tuple #[bv A n c X m k b.shut, .int .i64 0]) ∧ OwnB w' w.heap.size (.slice A n c) (.slice X m k) n m b ∧ Mor w w' := by
  obtain ⟨A, n', c, X, m, k, he, hq, ho, hm⟩ := postYes_bq h
  have e : n' = n := by rw [← hq.ac.length, hn]
  subst e
  exact ⟨A, c, X, m, k, he, ho, hm⟩

end Go.Proofs.Ytdpphneebikdpaa

/- Entries posted in whatever order: the same book. -/
namespace Go.Proofs.Ytdpphneebikdpaa
open Go.ChangeShapes Go.WideShapes Go.ChangeAt Go.RowKit Go.PlainAid
set_option linter.unusedVariables false
set_option maxRecDepth 100000

theorem nodup_le {α : Type} [DecidableEq α] {xs ys : List α} (h : xs.Nodup) (hs : ∀ a ∈ xs, a ∈ ys) : xs.length ≤ ys.length := by
  induction xs generalizing ys with
  | nil => exact Nat.zero_le _
  | cons a xs ih =>
    rw [List.nodup_cons] at h
    have ha := hs a (List.mem_cons_self ..)
    have h2 : ∀ b ∈ xs, b ∈ ys.erase a := fun b hb => (List.mem_erase_of_ne (show b ≠ a from fun e => h.1 (e ▸ hb))).2 (hs b (List.mem_cons_of_mem _ hb))
    have h3 := ih h.2 h2
    rw [List.length_erase_of_mem ha] at h3
    have := List.length_pos_of_mem ha
    simp only [List.length_cons]
    omega
theorem sorted_ext {xs ys : List En} (hx : xs.Pairwise elt) (hy : ys.Pairwise elt) (h1 : ∀ a ∈ xs, a ∈ ys) (h2 : ∀ a ∈ ys, a ∈ xs) : xs = ys := by
  induction xs generalizing ys with
  | nil =>
    cases ys with
    | nil => rfl
    | cons y ys => exact absurd (h2 y (List.mem_cons_self ..)) (by simp)
  | cons x xs ih =>
    cases ys with
    | nil => exact absurd (h1 x (List.mem_cons_self ..)) (by simp)
    | cons y ys =>
      rw [List.pairwise_cons] at hx hy
      have e : x = y := by
        rcases List.mem_cons.1 (h1 x (List.mem_cons_self ..)) with e | hxy
        · exact e
        · rcases List.mem_cons.1 (h2 y (List.mem_cons_self ..)) with e | hyx
          · exact e.symm
          · exact absurd (hx.1 y hyx) (elt_asymm (hy.1 x hxy))
      subst e
      congr 1
      refine ih hx.2 hy.2 (fun a ha => ?_) (fun a ha => ?_)
      · rcases List.mem_cons.1 (h1 a (List.mem_cons_of_mem _ ha)) with e | h
        · subst e; exact absurd (hx.1 _ ha) (elt_irrefl _)
        · exact h
      · rcases List.mem_cons.1 (h2 a (List.mem_cons_of_mem _ ha)) with e | h
        · subst e; exact absurd (hy.1 _ ha) (elt_irrefl _)
        · exact h
theorem key_inj {es : List En} (h : es.Pairwise fun x y => x.key ≠ y.key) {x y : En} (hx : x ∈ es) (hy : y ∈ es) (hk : x.key = y.key) : x = y := by
  obtain ⟨i, _, h1, h2⟩ := find_mem h hx
  obtain ⟨j, _, h3, h4⟩ := find_mem h hy
  rw [hk, h3] at h1
  have : j = i := by omega
  subst this
  rw [← h2, ← h4]
theorem en_nodup {b : Bok} (h : BOk b) : b.en.Nodup := h.keys.imp fun {a b} hk e => hk (by rw [e])
/-- the entries that were posted -/
def donel (b : Bok) : List En → List En
  | [] => []
  | x :: xs => if postc b x = 0 then x :: donel (postb b x) xs else donel b xs
theorem donel_snoc (b : Bok) (xs : List En) (x : En) : donel b (xs ++ [x]) = donel b xs ++ if postc (madeb b xs) x = 0 then [x] else [] := by
  induction xs generalizing b with
  | nil =>
    show (if postc b x = 0 then x :: [] else []) = [] ++ if postc b x = 0 then [x] else []
    rfl
  | cons y ys ih =>
    show (if postc b y = 0 then y :: donel (postb b y) (ys ++ [x]) else donel b (ys ++ [x])) = (if postc b y = 0 then y :: donel (postb b y) ys else donel b ys) ++ if postc (madeb (stepb b y) ys) x = 0 then [x] else []
    by_cases h : postc b y = 0
    · rw [if_pos h, if_pos h, stepb_yes h, ih]; rfl
    · rw [if_neg h, if_neg h, stepb_no h, ih]
theorem donel_take (b : Bok) (es : List En) (j : Nat) (hj : j < es.length) : donel b (es.take (j + 1)) = donel b (es.take j) ++ if postc (madeb b (es.take j)) (ne es j) = 0 then [ne es j] else [] := by
  rw [List.take_succ_eq_append_getElem hj, donel_snoc, ne_eq _ _ hj]
/-- the book behind the entries that were posted -/
structure OInv (b x : Bok) (d : List En) : Prop where
  ok : BOk x
  ac : x.ac = b.ac
  sh : x.shut = b.shut
  sub : ∀ e ∈ b.en, e ∈ x.en
  din : ∀ e ∈ d, e ∈ x.en ∧ enc e = 0
  new : ∀ e ∈ x.en, e ∈ b.en ∨ (e ∈ d ∧ knownB b.ac e = true ∧ b.shut < e.day)
theorem OInv.start {b : Bok} (h : BOk b) : OInv b b [] := ⟨h, rfl, rfl, fun _ h => h, fun _ h => absurd h (by simp), fun _ h => .inl h⟩
theorem OInv.step {b x : Bok} {d : List En} (h : OInv b x d) {e : En} (hc : postc x e = 0) : OInv b (postb x e) (d ++ [e]) := by
  have hok := post_ok hc
  have hac := post_ac x e
  have he : enc e = 0 := (post_pre hc).2.1
  by_cases hf : 0 ≤ findE x.en e.key
  · obtain ⟨_, _, hin, hp⟩ := post_old hc hf
    rw [hp] at hok ⊢
    refine ⟨hok, h.ac, h.sh, h.sub, fun a ha => ?_, fun a ha => ?_⟩
    · rcases List.mem_append.1 ha with ha | ha
      · exact h.din a ha
      · rw [List.mem_singleton.1 ha]; exact ⟨hin, he⟩
    · rcases h.new a ha with h1 | ⟨h1, h2⟩
      · exact .inl h1
      · exact .inr ⟨List.mem_append.2 (.inl h1), h2⟩
  · obtain ⟨_, _, _, hkn, hd, _, hp⟩ := post_new hc hf
    refine ⟨hok, hac.1.trans h.ac, hac.2.trans h.sh, fun a ha => ?_, fun a ha => ?_, fun a ha => ?_⟩
    · rw [hp]; exact mem_ins.2 (.inr (h.sub a ha))
    · rw [hp]
      rcases List.mem_append.1 ha with ha | ha
      · exact ⟨mem_ins.2 (.inr (h.din a ha).1), (h.din a ha).2⟩
      · rw [List.mem_singleton.1 ha]; exact ⟨mem_ins.2 (.inl rfl), he⟩
    · rw [hp] at ha
      rcases mem_ins.1 ha with ha | ha
      · subst ha; exact .inr ⟨List.mem_append.2 (.inr (List.mem_singleton.2 rfl)), by rw [← h.ac]; exact hkn, by rw [← h.sh]; exact hd⟩
      · rcases h.new a ha with h1 | ⟨h1, h2⟩
        · exact .inl h1
        · exact .inr ⟨List.mem_append.2 (.inl h1), h2⟩
theorem OInv.made {b : Bok} (hb : BOk b) (es : List En) (j : Nat) (hj : j ≤ es.length) : OInv b (madeb b (es.take j)) (donel b (es.take j)) := by
  induction j with
  | zero => rw [List.take_zero]; exact OInv.start hb
  | succ j ih =>
    have h := ih (by omega)
    rw [madeb_take b es j (by omega), donel_take b es j (by omega)]
    by_cases hc : postc (madeb b (es.take j)) (ne es j) = 0
    · rw [stepb_yes hc, if_pos hc]; exact h.step hc
    · rw [stepb_no hc, if_neg hc, List.append_nil]; exact h
/-- a book on its way from b to x -/
structure Way (b x y : Bok) : Prop where
  ok : BOk y
  ac : y.ac = b.ac
  sh : y.shut = b.shut
  sub : ∀ e ∈ b.en, e ∈ y.en
  up : ∀ e ∈ y.en, e ∈ x.en
theorem Way.start {b x : Bok} {d : List En} (hb : BOk b) (h : OInv b x d) : Way b x b := ⟨hb, rfl, rfl, fun _ h => h, h.sub⟩
theorem Way.step {b x y : Bok} {d : List En} (h : OInv b x d) (hw : Way b x y) {e : En} (he : e ∈ d) :
    postc y e = 0 ∧ Way b x (postb y e) ∧ (∀ a ∈ y.en, a ∈ (postb y e).en) ∧ e ∈ (postb y e).en := by
  obtain ⟨hex, hec⟩ := h.din e he
  by_cases hin : e ∈ y.en
  · obtain ⟨h1, h2⟩ := post_again hw.ok hec hin
    rw [h2]; exact ⟨h1, hw, fun _ h => h, hin⟩
  · have hkey : ∀ z ∈ y.en, z.key ≠ e.key := fun z hz hk => hin (key_inj h.ok.keys (hw.up z hz) hex hk ▸ hz)
    have hf : ¬ 0 ≤ findE y.en e.key := by
      rcases findE_cases y.en e.key with ⟨e', _⟩ | ⟨i, hi, _, hk⟩
      · rw [e']; omega
      · exact absurd hk (hkey _ (List.getElem_mem hi))
    have hnew : knownB b.ac e = true ∧ b.shut < e.day := by
      rcases h.new e hex with h1 | ⟨_, h2⟩
      · exact absurd (hw.sub e h1) hin
      · exact h2
    have hlen : y.en.length < 60 := by
      have h1 : (e :: y.en).length ≤ x.en.length := nodup_le (List.nodup_cons.2 ⟨hin, en_nodup hw.ok⟩) (fun a ha => by
        rcases List.mem_cons.1 ha with rfl | ha
        · exact hex
        · exact hw.up a ha)
      have := h.ok.len
      simp only [List.length_cons] at h1
      omega
    have hc : postc y e = 0 := by
      unfold postc
      rw [if_neg (by simp [(bookc_iff y).2 hw.ok]), if_neg (by simp [hec]), if_neg hf, if_neg (by rw [hw.ac, hnew.1]; simp), if_neg (by rw [hw.sh]; omega), if_neg (by omega)]
    have hp : postb y e = { y with en := ins e y.en } := by unfold postb; rw [if_neg hf]
    refine ⟨hc, ⟨post_ok hc, (post_ac y e).1.trans hw.ac, (post_ac y e).2.trans hw.sh, fun a ha => ?_, fun a ha => ?_⟩, fun a ha => ?_, ?_⟩
    · rw [hp]; exact mem_ins.2 (.inr (hw.sub a ha))
    · rw [hp] at ha
      rcases mem_ins.1 ha with rfl | ha
      · exact hex
      · exact hw.up a ha
    · rw [hp]; exact mem_ins.2 (.inr ha)
    · rw [hp]; exact mem_ins.2 (.inl rfl)
theorem Way.done {b x y : Bok} {d : List En} (h : OInv b x d) (hw : Way b x y) (ha : ∀ e ∈ d, e ∈ y.en) : y = x := by
  have e1 : y.en = x.en := sorted_ext hw.ok.sorted h.ok.sorted hw.up fun e he => by
    rcases h.new e he with h1 | ⟨h1, _⟩
    · exact hw.sub e h1
    · exact ha e h1
  obtain ⟨ya, ye, ys⟩ := y
  obtain ⟨xa, xe, xs⟩ := x
  have e2 := hw.ac.trans h.ac.symm
  have e3 := hw.sh.trans h.sh.symm
  simp only at e1 e2 e3
  subst e1 e2 e3
  rfl
end Go.Proofs.Ytdpphneebikdpaa

/- Entries kept in a slice of the call's own; a book that stays where that slice grows. -/
namespace Go.Proofs.Ytdpphneebikdpaa
open Go.ChangeShapes Go.WideShapes Go.ChangeAt Go.RowKit Go.PlainAid
set_option linter.unusedVariables false
set_option maxRecDepth 100000

/-- entries kept in a slice of one's own: each one's lines lie where they came from -/
def Dn (w0 w : World) (v : Value) (cnt : Nat) (d : List En) : Prop :=
  ∃ qs, w.ownsRow w0.heap.size 47 3 v cnt (flat ec qs) ∧ qs.length = cnt ∧ d.length = cnt ∧
    ∀ i, i < cnt → (qe qs i).key = (ne d i).key ∧ (qe qs i).day = (ne d i).day ∧ (ne d i).key.size ≤ maxLen ∧ Lq w0 (qe qs i).A (qe qs i).n (qe qs i).c (ne d i).ls
theorem Dn.start (w0 w : World) : Dn w0 w (.slice none 0 0) 0 [] := ⟨[], World.ownsRow_nil _ _ _ _, rfl, rfl, fun i hi => absurd hi (Nat.not_lt_zero _)⟩
theorem Dn.mor {w0 w w' : World} {v : Value} {cnt : Nat} {d : List En} (h : Dn w0 w v cnt d) (hm : Mor w w') : Dn w0 w' v cnt d := by
  obtain ⟨qs, h1, h2⟩ := h
  exact ⟨qs, own_mor h1 hm, h2⟩
theorem Dn.setT {w0 w : World} {v u : Value} {cnt g i : Nat} {d : List En} {cs : Array Value} (h : Dn w0 w v cnt d) (hb : Bk w g 41 cs) : Dn w0 (w.setCell ⟨g, i, none⟩ u) v cnt d := by
  obtain ⟨qs, h1, h2⟩ := h
  exact ⟨qs, own_setT h1 hb (by decide), h2⟩
theorem Dn.es {w0 w : World} {v : Value} {cnt : Nat} {d : List En} (h : Dn w0 w v cnt d) (hm : Mor w0 w) :
    ∃ X k, v = .slice X cnt k ∧ cnt ≤ k ∧ k ≤ maxLen ∧ (X = none → cnt = 0) ∧ Es w X d := by
  obtain ⟨qs, hr, hql, hdl, hen⟩ := h
  have hr2 := hr
  obtain ⟨hlen, hh | ⟨g, cap, cur, rfl, hg, hb, h1, h2, h3, h4⟩⟩ := hr2
  · obtain ⟨rfl, rfl⟩ := hh
    exact ⟨none, 0, rfl, Nat.le_refl _, by unfold maxLen; omega, fun _ => rfl, .inl (List.eq_nil_of_length_eq_zero hdl)⟩
  · refine ⟨_, cap, rfl, h1, h2, (fun h => by cases h), ?_⟩
    by_cases h0 : d = []
    · exact .inl h0
    refine .inr ⟨_, rfl, (Array.getElem?_eq_some_iff.1 hb).1, fun i hi => ?_⟩
    have hi' : i < qs.length := by rw [hql, ← hdl]; exact hi
    obtain ⟨hk, hd, hs, hl⟩ := hen i (by rw [← hdl]; exact hi)
    obtain ⟨b', o', hA', _, hc⟩ := Rd.field 3 ec_len (Rd.own hr) i hi' (by omega)
    injection hA' with hA'
    injection hA' with e1 e2
    subst e1 e2
    have c0 := hc 0 (by omega)
    have c1 := hc 1 (by omega)
    have c2 := hc 2 (by omega)
    have eq1 : qs[i] = qe qs i := (qe_eq qs i hi').symm
    rw [adds]
    refine ⟨hs, (qe qs i).A, (qe qs i).n, (qe qs i).c, ?_, ?_, ?_, hl.mor hm⟩
    · rw [← hk, ← eq1]; simpa [ec] using c0
    · rw [← hd, ← eq1]; simpa [ec] using c1
    · rw [← eq1]; simpa [ec] using c2
/-- a variable holds the book that Post handed back (one variable alone) -/
theorem putZ_last {w : World} {bs : List Obj} {dr B n c m k : Nat} {A X : Option Addr} {sh : Int} {y : Bok} (h : OwnB (more w bs dr) B (.slice A n c) (.slice X m k) n m y) :
    PutY w ((more w bs dr).alloc (.cells #[.slice A n c, .slice X m k, .int .i64 sh] 41)) sh y (.int .i64 0) (.pointer (some ⟨w.heap.size + bs.length, 0, none⟩)) :=
  ⟨_, A, n, c, X, m, k, rfl, rfl, newAt (by simp), ⟨B, h.mor (Mor.refl _).alloc⟩, (Mor.refl w).more.alloc⟩
theorem putZ_first {w : World} {bs : List Obj} {dr B n c m k : Nat} {A X : Option Addr} {z z' z'' : Value} {sh : Int} {y : Bok} (h : OwnB (more (w.alloc (.cells #[z, z', z''] 41)) bs dr) B (.slice A n c) (.slice X m k) n m y) :
    PutY w (more (w.alloc (.cells #[.slice A n c, .slice X m k, .int .i64 sh] 41)) bs dr) sh y (.int .i64 0) (.pointer (some ⟨w.heap.size, 0, none⟩)) := by
  refine ⟨_, A, n, c, X, m, k, rfl, rfl, (newAt rfl).more _ _, ⟨B, ?_⟩, (Mor.refl w).alloc.more⟩
  have hb : Bk (more (w.alloc (.cells #[z, z', z''] 41)) bs dr) w.heap.size 41 #[z, z', z''] := (newAt rfl).more _ _
  have h2 := own3 (a := .slice A n c) (a' := .slice X m k) (a'' := .int .i64 sh) h hb
  rw [show (((more (w.alloc (.cells #[z, z', z''] 41)) bs dr).setCell ⟨w.heap.size, 0, none⟩ (.slice A n c)).setCell ⟨w.heap.size, 1, none⟩ (.slice X m k)).setCell ⟨w.heap.size, 2, none⟩ (.int .i64 sh) = more (w.alloc (.cells #[.slice A n c, .slice X m k, .int .i64 sh] 41)) bs dr by simp [go_sem]] at h2
  exact h2

end Go.Proofs.Ytdpphneebikdpaa
